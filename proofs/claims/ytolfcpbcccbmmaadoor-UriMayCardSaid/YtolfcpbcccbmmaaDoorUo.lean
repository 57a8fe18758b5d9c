/- UriMay: of any address whether it may be, and its text (first part: what comes in is not long). Condition: the table of digits is laid. -/
import Derived.Test.YtolfcpbcccbmmaaDoorUn
import Derived.Lib.MinMax
set_option linter.unusedVariables false
set_option linter.unusedSimpArgs false
set_option maxRecDepth 20000
namespace Go.Proofs.YtolfcpbcccbmmaaDoor
open Go.RowKit Pc
/-- fields' bytes, one more for each -/
def sum1 (fs : List Fl) : Nat := sumF fs + fs.length
theorem sum1_step (fs : List Fl) (k : Nat) (f : Fl) (h : fs[k]? = some f) : sum1 (fs.take (k + 1)) = sum1 (fs.take k) + (1 + f.n.length + f.v.length) := by
  have hl := (List.getElem?_eq_some_iff.1 h).1
  unfold sum1
  rw [List.take_add_one, h, sumF_append, List.length_append]
  simp [sumF]
  omega
/-- a row of addresses -/
def RowU (W : World) (g : Nat) (L : List (Ur × Option Addr × Nat)) : Prop := g < W.heap.size ∧ ∀ (i : Nat) (e : Ur × Option Addr × Nat), L[i]? = some e → ∀ (j : Nat) (v : Value), (e.1.arr e.2.1 e.2.2).toList[j]? = some v → W.cell? ((⟨g, i * 3, none⟩ : Addr).add j) = some v
theorem RowU.below {W W' : World} {g : Nat} {L : List (Ur × Option Addr × Nat)} (h : RowU W g L) {B : Nat} (hb : Below B W W') (hg : g < B) : RowU W' g L :=
  ⟨by have := h.1; have := hb.size; omega, fun i e he j v hv => (hb.cell (by rw [block_of_add]; exact hg)).trans (h.2 i e he j v hv)⟩
theorem addr_at (g a j : Nat) : (⟨g, a, none⟩ : Addr).add j = ⟨g, a + j, none⟩ := by unfold Addr.add; split <;> simp_all
theorem row5 (w : World) (e0 e1 e2 e3 e4 : Ur × Option Addr × Nat) :
    RowU (w.alloc (.cells #[.string ⟨e0.1.h.toArray⟩, .string ⟨e0.1.p.toArray⟩, .slice e0.2.1 e0.1.q.length e0.2.2, .string ⟨e1.1.h.toArray⟩, .string ⟨e1.1.p.toArray⟩, .slice e1.2.1 e1.1.q.length e1.2.2, .string ⟨e2.1.h.toArray⟩, .string ⟨e2.1.p.toArray⟩, .slice e2.2.1 e2.1.q.length e2.2.2, .string ⟨e3.1.h.toArray⟩, .string ⟨e3.1.p.toArray⟩, .slice e3.2.1 e3.1.q.length e3.2.2, .string ⟨e4.1.h.toArray⟩, .string ⟨e4.1.p.toArray⟩, .slice e4.2.1 e4.1.q.length e4.2.2] 24)) w.heap.size [e0, e1, e2, e3, e4] := by
  refine ⟨by simp, fun i e he j v hv => ?_⟩
  rw [addr_at, (Blk.new w _ _).cell]
  have hj : j < 3 := by
    have := (List.getElem?_eq_some_iff.1 hv).1
    simpa [Ur.arr] using this
  have hi : i < 5 := by
    have := (List.getElem?_eq_some_iff.1 he).1
    simpa using this
  obtain rfl | rfl | rfl | rfl | rfl : i = 0 ∨ i = 1 ∨ i = 2 ∨ i = 3 ∨ i = 4 := by omega
  all_goals
    have he2 := Option.some.inj he
    subst he2
    obtain rfl | rfl | rfl : j = 0 ∨ j = 1 ∨ j = 2 := by omega
    all_goals exact hv
theorem yieldsIf_load_urA {ops : Array Oper} {S : World → Prop} {op : Oper} {a : Act} (hw : Region.wanted op (yielded ops a.tmps) = true) (x : Operand) (ho : op.op = .load 24 x)
    (ad : Addr) (hx : a.eval x = .pointer (some ad)) (u : Ur) (A : Option Addr) (c : Nat) (hS : ∀ w, S w → ∀ j v, (u.arr A c).toList[j]? = some v → w.cell? (ad.add j) = some v) : YieldsIf Tryd.prog ops S op (.agg (u.arr A c)) a :=
  .inl ⟨hw, fun w hw' => by
    unfold execOp
    simp only [ho, hx, Instr.loadAt, Instr.sureAddr, Sem.run_bind, Sem.run_pure, Result.andThen_ok, run_loadVar_at w ad 24 (u.arr A c).toList _ (hS w hw') Tryd.underlying24 rfl ur_size]⟩
/-- a URI's box is laid beside another one, and one of its cells is set -/
theorem setQ {w w2 : World} {g : Nat} {r : Array Value} {u : Ur} {A : Option Addr} {c : Nat} (hK : Blk w2 g 24 r) (hg : w.heap.size < w2.heap.size) (hb : Below w.heap.size w w2) (v : Value) (i : Nat) (hgw : g < w2.heap.size := by omega) :
    ((w2.alloc (.cells (u.arr A c) 24)).cell? ⟨g, i, none⟩ = r[i]? ∧ (w2.alloc (.cells (u.arr A c) 24)).cell? ⟨w2.heap.size, i, none⟩ = (u.arr A c)[i]? ∧ (w2.alloc (.cells (u.arr A c) 24)).frozen? ⟨w2.heap.size, i, none⟩ = false) ∧ True ∧
    (Blk (w2.alloc (.cells ((u.arr A c).setIfInBounds i v) 24)) w2.heap.size 24 ((u.arr A c).setIfInBounds i v) ∧ Blk (w2.alloc (.cells ((u.arr A c).setIfInBounds i v) 24)) g 24 r ∧ Below w.heap.size w (w2.alloc (.cells ((u.arr A c).setIfInBounds i v) 24))) := by
  have hn := Blk.new w2 24 (u.arr A c)
  have ho := hK.alloc (.cells (u.arr A c) 24)
  exact ⟨⟨ho.cell i, hn.cell i, hn.frozen i⟩, trivial, Blk.new w2 _ _, hK.alloc _, hb.alloc hb.size _⟩
set_option maxHeartbeats 16000000 in
set_option maxRecDepth 100000 in
theorem uriMay_law (x y : ByteArray) (fs : List Fl) (A : Option Addr) (N c : Nat) (zs : List Int) (D : Option Addr) (d : Nat) (w : World) (hN : fs.length = min N 4001) (hf : FsAt w A c fs) (hNc : N ≤ c) (hi : IntsIn w D d zs) (hd : DigOk w) :
    Calls Tryd.prog 3 #[.agg #[.string x, .string y, .slice A N c], .slice D zs.length d] w fun e w' => e = .returned (.bool true) ∧ Below w.heap.size w w' := by
  have HD := Lib.hid hd
  have H := Lib.hid hi
  have HF := Lib.hid hf
  have HN := Lib.hid hN
  have hb0 := (Below.refl w.heap.size w).alloc (Nat.le_refl _) (.cells #[.string x, .string y, .slice A N c] 24)
  have hK0 := Blk.new w 24 #[.string x, .string y, .slice A N c]
  have cK := Lib.hid (known_walk _ (HD.out.below hb0))
  clear hd hi hf hN
  go_enter Tryd.func3, Tryd.ntmps3
  go_wp2_with fail
  refine cK.out.mono ?_
  rintro _ w1 ⟨rfl, hbn⟩
  have HB1 := Lib.hid (below_next hb0 hbn)
  have HK1 := Lib.hid (hK0.below hbn hK0.lt)
  have hc0 : w1.cell? ⟨w.heap.size, 0, none⟩ = some (.string x) := HK1.out.cell 0
  have hc1 : w1.cell? ⟨w.heap.size, 1, none⟩ = some (.string y) := HK1.out.cell 1
  clear hbn hb0 hK0 cK
  go_wp2_with fail
  obtain ⟨m0, hm0⟩ : ∃ m : Nat, min x.size 4000 + min y.size 4000 = m := ⟨_, rfl⟩
  have hm0i : min (x.size : Int) 4000 + min (y.size : Int) 4000 = (m0 : Int) := by omega
  have HM0 : Hid (m0 ≤ 8000 ∧ (m0 ≤ 3000 → m0 = x.size + y.size)) := by
    show _ ∧ _
    constructor
    · omega
    · intro; omega
  rw [hm0i]
  clear hm0 hm0i hc0 hc1
  go_loopw [5, 6] (fun mv iv wr => ∃ i m : Nat, i ≤ N ∧ i ≤ m ∧ m ≤ 12000 ∧ iv = .int .i64 i ∧ mv = .int .i64 m ∧ Hid (m ≤ 3000 → m = x.size + y.size + sum1 (fs.take i)) ∧ Hid (Blk wr w.heap.size 24 #[.string x, .string y, .slice A N c]) ∧ Hid (Below w.heap.size w wr)) (fun _ iv _ => N - (intOf iv).toNat)
  case atStart => exact ⟨0, m0, by omega, by omega, by have := HM0.out.1; omega, rfl, rfl, fun h => HM0.out.2 h, HK1, HB1⟩
  case round =>
    clear HK1 HB1 HM0
    obtain ⟨i, m, hi, him, hm, rfl, rfl, HS, HK, HB⟩ := hrel
    have hc2 : wr.cell? ⟨w.heap.size, 2, none⟩ = some (.slice A N c) := HK.out.cell 2
    by_cases hcond : i < N ∧ m ≤ 3000
    · obtain ⟨hlt, hm3⟩ := hcond
      have hif : i < fs.length := by rw [HN.out]; omega
      obtain ⟨ad, rfl⟩ : ∃ ad, A = some ad := by obtain ⟨ad, h, _⟩ := HF.out.2.2.2 (by omega); exact ⟨ad, h⟩
      obtain ⟨f, hfk⟩ : ∃ f, fs[i]? = some f := ⟨fs[i], List.getElem?_eq_getElem hif⟩
      have h2 := fl_two (HF.out.below HB.out).2.2 hfk
      have hS0 : wr.drew.cell? ⟨w.heap.size, 2, none⟩ = some (.slice (some ad) N c) ∧ wr.drew.cell? (ad.add (i * 2)) = some (.string ⟨f.n.toArray⟩) ∧ wr.drew.cell? ⟨(ad.add (i * 2)).block, (ad.add (i * 2)).off + 1, none⟩ = some (.string ⟨f.v.toArray⟩) := ⟨hc2, h2⟩
      have hst := Lib.hid (sum1_step fs i f hfk)
      have hki : (i : Int) < (N : Int) := by omega
      have hsn := size_mks f.n
      have hsv := size_mks f.v
      clear hfk h2
      go_wp2_with fail
      refine wp_region_held_drew (S := fun W => W.cell? ⟨w.heap.size, 2, none⟩ = some (.slice (some ad) N c) ∧ W.cell? (ad.add (i * 2)) = some (.string ⟨f.n.toArray⟩) ∧ W.cell? ⟨(ad.add (i * 2)).block, (ad.add (i * 2)).off + 1, none⟩ = some (.string ⟨f.v.toArray⟩)) (by kernel_rfl) hS0 (fun hHeld => ?_)
      first | (refine wpAnyH_take (i := 0) (v := _) rfl (by kernel_rfl) (by kernel_rfl) (by kernel_rfl) (fun _ _ _ h => h) (Or.inr ⟨?_, rfl⟩) (by assumption) ?_; rfl) | (refine wpAnyH_take (i := 0) (v := ?_) rfl (by kernel_rfl) (by kernel_rfl) (by kernel_rfl) (fun _ _ _ h => h) (Or.inl ⟨?_, ?_⟩) (by assumption) ?_; rotate_left; rfl; focus (intro w hSw; (try dsimp only at hSw); go_simp; all_goals (with_reducible rfl)))
      (try simp only [List.getElem_toArray, List.getElem_cons_zero, List.getElem_cons_succ, Act.put, List.setIfInBounds_toArray, List.set_cons_zero, List.set_cons_succ])
      first | (refine wpAnyH_take (i := 1) (v := _) rfl (by kernel_rfl) (by kernel_rfl) (by kernel_rfl) (fun _ _ _ h => h) (Or.inr ⟨?_, rfl⟩) (by assumption) ?_; rfl) | (refine wpAnyH_take (i := 1) (v := ?_) rfl (by kernel_rfl) (by kernel_rfl) (by kernel_rfl) (fun _ _ _ h => h) (Or.inl ⟨?_, ?_⟩) (by assumption) ?_; rotate_left; rfl; focus (intro w hSw; (try dsimp only at hSw); go_simp; all_goals (with_reducible rfl)))
      (try simp only [List.getElem_toArray, List.getElem_cons_zero, List.getElem_cons_succ, Act.put, List.setIfInBounds_toArray, List.set_cons_zero, List.set_cons_succ])
      first | (refine wpAnyH_take (i := 2) (v := _) rfl (by kernel_rfl) (by kernel_rfl) (by kernel_rfl) (fun _ _ _ h => h) (Or.inr ⟨?_, rfl⟩) (by assumption) ?_; rfl) | (refine wpAnyH_take (i := 2) (v := ?_) rfl (by kernel_rfl) (by kernel_rfl) (by kernel_rfl) (fun _ _ _ h => h) (Or.inl ⟨?_, ?_⟩) (by assumption) ?_; rotate_left; rfl; focus (intro w hSw; (try dsimp only at hSw); go_simp; all_goals (with_reducible rfl)))
      (try simp only [List.getElem_toArray, List.getElem_cons_zero, List.getElem_cons_succ, Act.put, List.setIfInBounds_toArray, List.set_cons_zero, List.set_cons_succ])
      first | (refine wpAnyH_take (i := 3) (v := _) rfl (by kernel_rfl) (by kernel_rfl) (by kernel_rfl) (fun _ _ _ h => h) (Or.inr ⟨?_, rfl⟩) (by assumption) ?_; rfl) | (refine wpAnyH_take (i := 3) (v := ?_) rfl (by kernel_rfl) (by kernel_rfl) (by kernel_rfl) (fun _ _ _ h => h) (Or.inl ⟨?_, ?_⟩) (by assumption) ?_; rotate_left; rfl; focus (intro w hSw; (try dsimp only at hSw); go_simp; all_goals (with_reducible rfl)))
      (try simp only [List.getElem_toArray, List.getElem_cons_zero, List.getElem_cons_succ, Act.put, List.setIfInBounds_toArray, List.set_cons_zero, List.set_cons_succ])
      first | (refine wpAnyH_take (i := 4) (v := _) rfl (by kernel_rfl) (by kernel_rfl) (by kernel_rfl) (fun _ _ _ h => h) (Or.inr ⟨?_, rfl⟩) (by assumption) ?_; rfl) | (refine wpAnyH_take (i := 4) (v := ?_) rfl (by kernel_rfl) (by kernel_rfl) (by kernel_rfl) (fun _ _ _ h => h) (Or.inl ⟨?_, ?_⟩) (by assumption) ?_; rotate_left; rfl; focus (intro w hSw; (try dsimp only at hSw); go_simp; all_goals (with_reducible rfl)))
      (try simp only [List.getElem_toArray, List.getElem_cons_zero, List.getElem_cons_succ, Act.put, List.setIfInBounds_toArray, List.set_cons_zero, List.set_cons_succ])
      first | (refine wpAnyH_take (i := 5) (v := _) rfl (by kernel_rfl) (by kernel_rfl) (by kernel_rfl) (fun _ _ _ h => h) (Or.inr ⟨?_, rfl⟩) (by assumption) ?_; rfl) | (refine wpAnyH_take (i := 5) (v := ?_) rfl (by kernel_rfl) (by kernel_rfl) (by kernel_rfl) (fun _ _ _ h => h) (Or.inl ⟨?_, ?_⟩) (by assumption) ?_; rotate_left; rfl; focus (intro w hSw; (try dsimp only at hSw); go_simp; all_goals (with_reducible rfl)))
      (try simp only [List.getElem_toArray, List.getElem_cons_zero, List.getElem_cons_succ, Act.put, List.setIfInBounds_toArray, List.set_cons_zero, List.set_cons_succ])
      first | (refine wpAnyH_take (i := 6) (v := _) rfl (by kernel_rfl) (by kernel_rfl) (by kernel_rfl) (fun _ _ _ h => h) (Or.inr ⟨?_, rfl⟩) (by assumption) ?_; rfl) | (refine wpAnyH_take (i := 6) (v := ?_) rfl (by kernel_rfl) (by kernel_rfl) (by kernel_rfl) (fun _ _ _ h => h) (Or.inl ⟨?_, ?_⟩) (by assumption) ?_; rotate_left; rfl; focus (intro w hSw; (try dsimp only at hSw); go_simp; all_goals (with_reducible rfl)))
      (try simp only [List.getElem_toArray, List.getElem_cons_zero, List.getElem_cons_succ, Act.put, List.setIfInBounds_toArray, List.set_cons_zero, List.set_cons_succ])
      first | (refine wpAnyH_take (i := 7) (v := _) rfl (by kernel_rfl) (by kernel_rfl) (by kernel_rfl) (fun _ _ _ h => h) (Or.inr ⟨?_, rfl⟩) (by assumption) ?_; rfl) | (refine wpAnyH_take (i := 7) (v := ?_) rfl (by kernel_rfl) (by kernel_rfl) (by kernel_rfl) (fun _ _ _ h => h) (Or.inl ⟨?_, ?_⟩) (by assumption) ?_; rotate_left; rfl; focus (intro w hSw; (try dsimp only at hSw); go_simp; all_goals (with_reducible rfl)))
      (try simp only [List.getElem_toArray, List.getElem_cons_zero, List.getElem_cons_succ, Act.put, List.setIfInBounds_toArray, List.set_cons_zero, List.set_cons_succ])
      first | (refine wpAnyH_take (i := 8) (v := _) rfl (by kernel_rfl) (by kernel_rfl) (by kernel_rfl) (fun _ _ _ h => h) (Or.inr ⟨?_, rfl⟩) (by assumption) ?_; rfl) | (refine wpAnyH_take (i := 8) (v := ?_) rfl (by kernel_rfl) (by kernel_rfl) (by kernel_rfl) (fun _ _ _ h => h) (Or.inl ⟨?_, ?_⟩) (by assumption) ?_; rotate_left; rfl; focus (intro w hSw; (try dsimp only at hSw); go_simp; all_goals (with_reducible rfl)))
      (try simp only [List.getElem_toArray, List.getElem_cons_zero, List.getElem_cons_succ, Act.put, List.setIfInBounds_toArray, List.set_cons_zero, List.set_cons_succ])
      first | (refine wpAnyH_take (i := 9) (v := _) rfl (by kernel_rfl) (by kernel_rfl) (by kernel_rfl) (fun _ _ _ h => h) (Or.inr ⟨?_, rfl⟩) (by assumption) ?_; rfl) | (refine wpAnyH_take (i := 9) (v := ?_) rfl (by kernel_rfl) (by kernel_rfl) (by kernel_rfl) (fun _ _ _ h => h) (Or.inl ⟨?_, ?_⟩) (by assumption) ?_; rotate_left; rfl; focus (intro w hSw; (try dsimp only at hSw); go_simp; all_goals (with_reducible rfl)))
      (try simp only [List.getElem_toArray, List.getElem_cons_zero, List.getElem_cons_succ, Act.put, List.setIfInBounds_toArray, List.set_cons_zero, List.set_cons_succ])
      first | (refine wpAnyH_take (i := 10) (v := _) rfl (by kernel_rfl) (by kernel_rfl) (by kernel_rfl) (fun _ _ _ h => h) (Or.inr ⟨?_, rfl⟩) (by assumption) ?_; rfl) | (refine wpAnyH_take (i := 10) (v := ?_) rfl (by kernel_rfl) (by kernel_rfl) (by kernel_rfl) (fun _ _ _ h => h) (Or.inl ⟨?_, ?_⟩) (by assumption) ?_; rotate_left; rfl; focus (intro w hSw; (try dsimp only at hSw); go_simp; all_goals (with_reducible rfl)))
      (try simp only [List.getElem_toArray, List.getElem_cons_zero, List.getElem_cons_succ, Act.put, List.setIfInBounds_toArray, List.set_cons_zero, List.set_cons_succ])
      first | (refine wpAnyH_take (i := 11) (v := _) rfl (by kernel_rfl) (by kernel_rfl) (by kernel_rfl) (fun _ _ _ h => h) (Or.inr ⟨?_, rfl⟩) (by assumption) ?_; rfl) | (refine wpAnyH_take (i := 11) (v := ?_) rfl (by kernel_rfl) (by kernel_rfl) (by kernel_rfl) (fun _ _ _ h => h) (Or.inl ⟨?_, ?_⟩) (by assumption) ?_; rotate_left; rfl; focus (intro w hSw; (try dsimp only at hSw); go_simp; all_goals (with_reducible rfl)))
      (try simp only [List.getElem_toArray, List.getElem_cons_zero, List.getElem_cons_succ, Act.put, List.setIfInBounds_toArray, List.set_cons_zero, List.set_cons_succ])
      first | (refine wpAnyH_take (i := 12) (v := _) rfl (by kernel_rfl) (by kernel_rfl) (by kernel_rfl) (fun _ _ _ h => h) (Or.inr ⟨?_, rfl⟩) (by assumption) ?_; rfl) | (refine wpAnyH_take (i := 12) (v := ?_) rfl (by kernel_rfl) (by kernel_rfl) (by kernel_rfl) (fun _ _ _ h => h) (Or.inl ⟨?_, ?_⟩) (by assumption) ?_; rotate_left; rfl; focus (intro w hSw; (try dsimp only at hSw); go_simp; all_goals (with_reducible rfl)))
      (try simp only [List.getElem_toArray, List.getElem_cons_zero, List.getElem_cons_succ, Act.put, List.setIfInBounds_toArray, List.set_cons_zero, List.set_cons_succ])
      first | (refine wpAnyH_take (i := 13) (v := _) rfl (by kernel_rfl) (by kernel_rfl) (by kernel_rfl) (fun _ _ _ h => h) (Or.inr ⟨?_, rfl⟩) (by assumption) ?_; rfl) | (refine wpAnyH_take (i := 13) (v := ?_) rfl (by kernel_rfl) (by kernel_rfl) (by kernel_rfl) (fun _ _ _ h => h) (Or.inl ⟨?_, ?_⟩) (by assumption) ?_; rotate_left; rfl; focus (intro w hSw; (try dsimp only at hSw); go_simp; all_goals (with_reducible rfl)))
      (try simp only [List.getElem_toArray, List.getElem_cons_zero, List.getElem_cons_succ, Act.put, List.setIfInBounds_toArray, List.set_cons_zero, List.set_cons_succ])
      first | (refine wpAnyH_take (i := 14) (v := _) rfl (by kernel_rfl) (by kernel_rfl) (by kernel_rfl) (fun _ _ _ h => h) (Or.inr ⟨?_, rfl⟩) (by assumption) ?_; rfl) | (refine wpAnyH_take (i := 14) (v := ?_) rfl (by kernel_rfl) (by kernel_rfl) (by kernel_rfl) (fun _ _ _ h => h) (Or.inl ⟨?_, ?_⟩) (by assumption) ?_; rotate_left; rfl; focus (intro w hSw; (try dsimp only at hSw); go_simp; all_goals (with_reducible rfl)))
      (try simp only [List.getElem_toArray, List.getElem_cons_zero, List.getElem_cons_succ, Act.put, List.setIfInBounds_toArray, List.set_cons_zero, List.set_cons_succ])
      first | (refine wpAnyH_take (i := 15) (v := _) rfl (by kernel_rfl) (by kernel_rfl) (by kernel_rfl) (fun _ _ _ h => h) (Or.inr ⟨?_, rfl⟩) (by assumption) ?_; rfl) | (refine wpAnyH_take (i := 15) (v := ?_) rfl (by kernel_rfl) (by kernel_rfl) (by kernel_rfl) (fun _ _ _ h => h) (Or.inl ⟨?_, ?_⟩) (by assumption) ?_; rotate_left; rfl; focus (intro w hSw; (try dsimp only at hSw); go_simp; all_goals (with_reducible rfl)))
      (try simp only [List.getElem_toArray, List.getElem_cons_zero, List.getElem_cons_succ, Act.put, List.setIfInBounds_toArray, List.set_cons_zero, List.set_cons_succ])
      first | (refine wpAnyH_take (i := 16) (v := _) rfl (by kernel_rfl) (by kernel_rfl) (by kernel_rfl) (fun _ _ _ h => h) (Or.inr ⟨?_, rfl⟩) (by assumption) ?_; rfl) | (refine wpAnyH_take (i := 16) (v := ?_) rfl (by kernel_rfl) (by kernel_rfl) (by kernel_rfl) (fun _ _ _ h => h) (Or.inl ⟨?_, ?_⟩) (by assumption) ?_; rotate_left; rfl; focus (intro w hSw; (try dsimp only at hSw); go_simp; all_goals (with_reducible rfl)))
      (try simp only [List.getElem_toArray, List.getElem_cons_zero, List.getElem_cons_succ, Act.put, List.setIfInBounds_toArray, List.set_cons_zero, List.set_cons_succ])
      first | (refine wpAnyH_take (i := 17) (v := _) rfl (by kernel_rfl) (by kernel_rfl) (by kernel_rfl) (fun _ _ _ h => h) (Or.inr ⟨?_, rfl⟩) (by assumption) ?_; rfl) | (refine wpAnyH_take (i := 17) (v := ?_) rfl (by kernel_rfl) (by kernel_rfl) (by kernel_rfl) (fun _ _ _ h => h) (Or.inl ⟨?_, ?_⟩) (by assumption) ?_; rotate_left; rfl; focus (intro w hSw; (try dsimp only at hSw); go_simp; all_goals (with_reducible rfl)))
      (try simp only [List.getElem_toArray, List.getElem_cons_zero, List.getElem_cons_succ, Act.put, List.setIfInBounds_toArray, List.set_cons_zero, List.set_cons_succ])
      first | (refine wpAnyH_take (i := 18) (v := _) rfl (by kernel_rfl) (by kernel_rfl) (by kernel_rfl) (fun _ _ _ h => h) (Or.inr ⟨?_, rfl⟩) (by assumption) ?_; rfl) | (refine wpAnyH_take (i := 18) (v := ?_) rfl (by kernel_rfl) (by kernel_rfl) (by kernel_rfl) (fun _ _ _ h => h) (Or.inl ⟨?_, ?_⟩) (by assumption) ?_; rotate_left; rfl; focus (intro w hSw; (try dsimp only at hSw); go_simp; all_goals (with_reducible rfl)))
      (try simp only [List.getElem_toArray, List.getElem_cons_zero, List.getElem_cons_succ, Act.put, List.setIfInBounds_toArray, List.set_cons_zero, List.set_cons_succ])
      first | (refine wpAnyH_take (i := 19) (v := _) rfl (by kernel_rfl) (by kernel_rfl) (by kernel_rfl) (fun _ _ _ h => h) (Or.inr ⟨?_, rfl⟩) (by assumption) ?_; rfl) | (refine wpAnyH_take (i := 19) (v := ?_) rfl (by kernel_rfl) (by kernel_rfl) (by kernel_rfl) (fun _ _ _ h => h) (Or.inl ⟨?_, ?_⟩) (by assumption) ?_; rotate_left; rfl; focus (intro w hSw; (try dsimp only at hSw); go_simp; all_goals (with_reducible rfl)))
      (try simp only [List.getElem_toArray, List.getElem_cons_zero, List.getElem_cons_succ, Act.put, List.setIfInBounds_toArray, List.set_cons_zero, List.set_cons_succ])
      first | (refine wpAnyH_take (i := 20) (v := _) rfl (by kernel_rfl) (by kernel_rfl) (by kernel_rfl) (fun _ _ _ h => h) (Or.inr ⟨?_, rfl⟩) (by assumption) ?_; rfl) | (refine wpAnyH_take (i := 20) (v := ?_) rfl (by kernel_rfl) (by kernel_rfl) (by kernel_rfl) (fun _ _ _ h => h) (Or.inl ⟨?_, ?_⟩) (by assumption) ?_; rotate_left; rfl; focus (intro w hSw; (try dsimp only at hSw); go_simp; all_goals (with_reducible rfl)))
      (try simp only [List.getElem_toArray, List.getElem_cons_zero, List.getElem_cons_succ, Act.put, List.setIfInBounds_toArray, List.set_cons_zero, List.set_cons_succ])
      refine wpAnyH_done (by kernel_rfl) ?_ _
      clear hHeld hS0
      obtain ⟨na, hna⟩ : ∃ na : Nat, min f.n.length 4000 = na := ⟨_, rfl⟩
      obtain ⟨nb, hnb⟩ : ∃ nb : Nat, min f.v.length 4000 = nb := ⟨_, rfl⟩
      have hna1 : min (f.n.length : Int) 4000 = (na : Int) := by omega
      have hnb1 : min (f.v.length : Int) 4000 = (nb : Int) := by omega
      have hna2 : na ≤ 4000 := by omega
      have hnb2 : nb ≤ 4000 := by omega
      have e1 : IntKind.i64.wrap ((m : Int) + 1) = ((m + 1 : Nat) : Int) := by rw [IntKind.wrap_i64]; omega
      have e2 : IntKind.i64.wrap (((m + 1 : Nat) : Int) + (na : Int)) = ((m + 1 + na : Nat) : Int) := by rw [IntKind.wrap_i64]; omega
      have e3 : IntKind.i64.wrap (((m + 1 + na : Nat) : Int) + (nb : Int)) = ((m + 1 + na + nb : Nat) : Int) := by rw [IntKind.wrap_i64]; omega
      rw [hna1, hnb1, e1, e2, e3]
      clear e1 e2 e3 hna1 hnb1
      obtain ⟨m2, hm2⟩ : ∃ m2 : Nat, m + 1 + na + nb = m2 := ⟨_, rfl⟩
      rw [hm2]
      have hs0 := HS.out hm3
      have HM : Hid (m2 ≤ 3000 → m2 = x.size + y.size + sum1 (fs.take (i + 1))) := fun h => by
        rw [hst.out]
        omega
      have hms : m2 ≤ 12000 := by omega
      have him2 : i + 1 ≤ m2 := by omega
      have hw := hm2
      clear hs0 hna hnb hna2 hnb2
      clear hw hm2 hsn hsv hc2
      go_wp2_with fail
      exact ⟨⟨i + 1, m2, by omega, him2, hms, by go_num, rfl, HM, HK.out, HB.out.drew⟩, by simp [intOf]; omega⟩
    · have hcase : ¬ i < N ∨ i < N ∧ ¬ m ≤ 3000 := by omega
      by_cases hm3 : 3000 < m
      · have hd3 : decide ((3000 : Int) < (m : Int)) = true := by simp; omega
        clear hcond
        rcases hcase with h1 | ⟨h1, h2⟩
        all_goals
          go_wp2_with fail
          go_ret
          exact ⟨rfl, HB.out⟩
      · have hd3 : decide ((3000 : Int) < (m : Int)) = false := by simp; omega
        have hlt1 : ¬ i < N := by omega
        have hNf : N = fs.length := by rw [HN.out]; omega
        have hsum : m = x.size + y.size + sum1 fs := by
          have := HS.out (by omega)
          rw [List.take_of_length_le (by omega)] at this
          exact this
        have hs1 : sum1 fs = sumF fs + fs.length := rfl
        have hbx : x.size + y.size + sumF fs + fs.length ≤ 3000 := by omega
        subst hNf
        obtain ⟨xl, rfl⟩ := str_of x
        obtain ⟨yl, rfl⟩ := str_of y
        rw [size_mks, size_mks] at hbx
        have HK2 : Hid (Blk wr w.heap.size 24 ((Ur.mk xl yl fs).arr A c)) := HK.out
        clear hcond hcase hsum hs1 HS HK
        go_wp2_with fail
        have hfq : fs.length ≤ 4000 := by omega
        clear hlt1 hd3 him hm hi hm3
        refine (uri_walk zs D d wr (H.out.below HB.out)).mono ?_
        rintro _ w2 ⟨u1, A1, c1, rfl, hm1, hu1, hbn⟩
        have hb2 := below_next HB.out hbn
        have hK2 := HK2.out.below hbn HK2.out.lt
        have hg2 : w.heap.size < w2.heap.size := hK2.lt
        obtain ⟨hp1, hp2, hp3⟩ := setQ hK2 hg2 hb2 (u := u1) (A := A1) (c := c1) (.slice A fs.length c) 2
        have HU1 := Lib.hid hu1
        have hx2 : (w2.alloc (.cells (u1.arr A1 c1) 24)).cell? ⟨w.heap.size, 2, none⟩ = some (.slice A fs.length c) := hp1.1
        have hx3 : (w2.alloc (.cells (u1.arr A1 c1) 24)).cell? ⟨w2.heap.size, 2, none⟩ = some (.slice A1 u1.q.length c1) := hp1.2.1
        have hx4 := hp1.2.2
        have HQ2 : Hid (Blk (w2.alloc (.cells ((u1.arr A1 c1).setIfInBounds 2 (.slice A fs.length c)) 24)) w2.heap.size 24 ((Ur.mk u1.h u1.p fs).arr A c)) := hp3.1
        have HK3 := Lib.hid hp3.2.1
        have HB3 := Lib.hid hp3.2.2
        clear hbn hb2 hK2 hp1 hp2 hp3 HB HK2 hu1
        go_wp2_with (refine wpList_store_ur w2 rfl _ _ rfl rfl rfl ?_)
        refine (uri_walk zs D d _ (H.out.below HB3.out)).mono ?_
        rintro _ w4 ⟨u2, A2, c2, rfl, hm2, hu2, hbn⟩
        have hb4 := below_next HB3.out hbn
        have hK4 := HK3.out.below hbn HK3.out.lt
        have HQ4 := Lib.hid (HQ2.out.below hbn HQ2.out.lt)
        have hg4 : w.heap.size < w4.heap.size := hK4.lt
        obtain ⟨hp1, hp2, hp3⟩ := setQ hK4 hg4 hb4 (u := u2) (A := A2) (c := c2) (.string ⟨yl.toArray⟩) 1
        have HU2 := Lib.hid hu2
        have hx2 : (w4.alloc (.cells (u2.arr A2 c2) 24)).cell? ⟨w.heap.size, 1, none⟩ = some (.string ⟨yl.toArray⟩) := hp1.1
        have hx3 : (w4.alloc (.cells (u2.arr A2 c2) 24)).cell? ⟨w4.heap.size, 1, none⟩ = some (.string ⟨u2.p.toArray⟩) := hp1.2.1
        have hx4 := hp1.2.2
        have HR4 : Hid (Blk (w4.alloc (.cells ((u2.arr A2 c2).setIfInBounds 1 (.string ⟨yl.toArray⟩)) 24)) w4.heap.size 24 ((Ur.mk u2.h yl u2.q).arr A2 c2)) := hp3.1
        have HQ5 := Lib.hid (HQ4.out.alloc (.cells ((u2.arr A2 c2).setIfInBounds 1 (.string ⟨yl.toArray⟩)) 24))
        have HK5 := Lib.hid hp3.2.1
        have HB5 := Lib.hid hp3.2.2
        have HV5 : Hid (Below w2.heap.size w2 (w4.alloc (.cells ((u2.arr A2 c2).setIfInBounds 1 (.string ⟨yl.toArray⟩)) 24))) := by
          show Below _ _ _
          have h1 : Below w2.heap.size w2 (w2.alloc (.cells ((u1.arr A1 c1).setIfInBounds 2 (.slice A fs.length c)) 24)) := (Below.refl w2.heap.size w2).alloc (Nat.le_refl _) _
          have h2 := below_next h1 hbn
          exact h2.alloc h2.size _
        clear hbn hb4 hK4 hp1 hp2 hp3 HB3 HK3 hu2 HQ2 HQ4
        go_wp2_with (refine wpList_store_ur w4 rfl _ _ rfl rfl rfl ?_)
        refine (uri_walk zs D d _ (H.out.below HB5.out)).mono ?_
        rintro _ w6 ⟨u3, A3, c3, rfl, hm3, hu3, hbn⟩
        have hb6 := below_next HB5.out hbn
        have hK6 := HK5.out.below hbn HK5.out.lt
        have HQ6 := Lib.hid (HQ5.out.below hbn HQ5.out.lt)
        have HR6 := Lib.hid (HR4.out.below hbn HR4.out.lt)
        have hg6 : w.heap.size < w6.heap.size := hK6.lt
        obtain ⟨hp1, hp2, hp3⟩ := setQ hK6 hg6 hb6 (u := u3) (A := A3) (c := c3) (.string ⟨xl.toArray⟩) 0
        have HU3 := Lib.hid hu3
        have hx2 : (w6.alloc (.cells (u3.arr A3 c3) 24)).cell? ⟨w.heap.size, 0, none⟩ = some (.string ⟨xl.toArray⟩) := hp1.1
        have hx3 : (w6.alloc (.cells (u3.arr A3 c3) 24)).cell? ⟨w6.heap.size, 0, none⟩ = some (.string ⟨u3.h.toArray⟩) := hp1.2.1
        have hx4 := hp1.2.2
        have HT7 : Hid (Blk (w6.alloc (.cells ((u3.arr A3 c3).setIfInBounds 0 (.string ⟨xl.toArray⟩)) 24)) w6.heap.size 24 ((Ur.mk xl u3.p u3.q).arr A3 c3)) := hp3.1
        have HQ7 := Lib.hid (HQ6.out.alloc (.cells ((u3.arr A3 c3).setIfInBounds 0 (.string ⟨xl.toArray⟩)) 24))
        have HR7 := Lib.hid (HR6.out.alloc (.cells ((u3.arr A3 c3).setIfInBounds 0 (.string ⟨xl.toArray⟩)) 24))
        have HK7 := Lib.hid hp3.2.1
        have HB7 := Lib.hid hp3.2.2
        have h4a : Below w4.heap.size w4 (w4.alloc (.cells ((u2.arr A2 c2).setIfInBounds 1 (.string ⟨yl.toArray⟩)) 24)) := (Below.refl w4.heap.size w4).alloc (Nat.le_refl _) _
        have h4b := below_next h4a hbn
        have HE4 : Hid (Below w4.heap.size w4 (w6.alloc (.cells ((u3.arr A3 c3).setIfInBounds 0 (.string ⟨xl.toArray⟩)) 24))) := h4b.alloc h4b.size _
        have HE6 : Hid (Below w6.heap.size w6 (w6.alloc (.cells ((u3.arr A3 c3).setIfInBounds 0 (.string ⟨xl.toArray⟩)) 24))) := (Below.refl w6.heap.size w6).alloc (Nat.le_refl _) _
        clear hbn hb6 hK6 hp1 hp2 hp3 HB5 HK5 hu3 HQ5 HQ6 HR4 HR6 h4a h4b HV5
        go_wp2_with (refine wpList_store_ur w6 rfl _ _ rfl rfl rfl ?_)
        clear hx2 hx3 hx4
        generalize hW7 : w6.alloc (.cells ((u3.arr A3 c3).setIfInBounds 0 (.string ⟨xl.toArray⟩)) 24) = W7 at HT7 HQ7 HR7 HK7 HB7 HE4 HE6 ⊢
        clear hW7
        have hS0 : Blk W7.drew w.heap.size 24 ((Ur.mk xl yl fs).arr A c) ∧ Blk W7.drew w2.heap.size 24 ((Ur.mk u1.h u1.p fs).arr A c) ∧ Blk W7.drew w4.heap.size 24 ((Ur.mk u2.h yl u2.q).arr A2 c2) ∧ Blk W7.drew w6.heap.size 24 ((Ur.mk xl u3.p u3.q).arr A3 c3) := ⟨HK7.out, HQ7.out, HR7.out, HT7.out⟩
        refine wp_region_held_drew (S := fun W => Blk W w.heap.size 24 ((Ur.mk xl yl fs).arr A c) ∧ Blk W w2.heap.size 24 ((Ur.mk u1.h u1.p fs).arr A c) ∧ Blk W w4.heap.size 24 ((Ur.mk u2.h yl u2.q).arr A2 c2) ∧ Blk W w6.heap.size 24 ((Ur.mk xl u3.p u3.q).arr A3 c3)) (by kernel_rfl) hS0 (fun hHeld => ?_)
        refine wpAnyH_take (i := 0) (v := _) rfl (by kernel_rfl) (by kernel_rfl) (by kernel_rfl) (fun _ _ _ h => h) (yieldsIf_load_ur (by rfl) _ rfl w.heap.size rfl (Ur.mk xl yl fs) A c (fun w h => h.1)) (by assumption) ?_
        (try simp only [List.getElem_toArray, List.getElem_cons_zero, List.getElem_cons_succ, Act.put, List.setIfInBounds_toArray, List.set_cons_zero, List.set_cons_succ])
        refine wpAnyH_take (i := 1) (v := _) rfl (by kernel_rfl) (by kernel_rfl) (by kernel_rfl) (fun _ _ _ h => h) (yieldsIf_load_ur (by rfl) _ rfl w2.heap.size rfl (Ur.mk u1.h u1.p fs) A c (fun w h => h.2.1)) (by assumption) ?_
        (try simp only [List.getElem_toArray, List.getElem_cons_zero, List.getElem_cons_succ, Act.put, List.setIfInBounds_toArray, List.set_cons_zero, List.set_cons_succ])
        refine wpAnyH_take (i := 2) (v := _) rfl (by kernel_rfl) (by kernel_rfl) (by kernel_rfl) (fun _ _ _ h => h) (yieldsIf_load_ur (by rfl) _ rfl w4.heap.size rfl (Ur.mk u2.h yl u2.q) A2 c2 (fun w h => h.2.2.1)) (by assumption) ?_
        (try simp only [List.getElem_toArray, List.getElem_cons_zero, List.getElem_cons_succ, Act.put, List.setIfInBounds_toArray, List.set_cons_zero, List.set_cons_succ])
        refine wpAnyH_take (i := 3) (v := _) rfl (by kernel_rfl) (by kernel_rfl) (by kernel_rfl) (fun _ _ _ h => h) (yieldsIf_load_ur (by rfl) _ rfl w6.heap.size rfl (Ur.mk xl u3.p u3.q) A3 c3 (fun w h => h.2.2.2)) (by assumption) ?_
        (try simp only [List.getElem_toArray, List.getElem_cons_zero, List.getElem_cons_succ, Act.put, List.setIfInBounds_toArray, List.set_cons_zero, List.set_cons_succ])
        first | (refine wpAnyH_take (i := 4) (v := _) rfl (by kernel_rfl) (by kernel_rfl) (by kernel_rfl) (fun _ _ _ h => h) (Or.inr ⟨?_, rfl⟩) (by assumption) ?_; rfl) | (refine wpAnyH_take (i := 4) (v := ?_) rfl (by kernel_rfl) (by kernel_rfl) (by kernel_rfl) (fun _ _ _ h => h) (Or.inl ⟨?_, ?_⟩) (by assumption) ?_; rotate_left; rfl; focus (intro w hSw; (try dsimp only at hSw); go_simp; all_goals (with_reducible rfl)))
        (try simp only [List.getElem_toArray, List.getElem_cons_zero, List.getElem_cons_succ, Act.put, List.setIfInBounds_toArray, List.set_cons_zero, List.set_cons_succ])
        refine wpAnyH_ready (rs := [5]) (by kernel_rfl) (by simp) ?_
        refine AllReadyH.cons rfl (fun K hK => ?_) AllReadyH.nil
        go_simp
        go_at_call 7
        with_reducible refine (uri_walk zs D d W7.drew (H.out.below HB7.out.drew)).mono ?_
        rintro _ w8 ⟨u4, A4, c4, rfl, hm4, hu4, hbn⟩
        have HB8 := Lib.hid (below_next HB7.out.drew hbn)
        have HU4 := Lib.hid hu4
        have HE48 := Lib.hid (below_next HE4.out.drew hbn)
        have HE68 := Lib.hid (below_next HE6.out.drew hbn)
        have hS8 : Blk w8 w.heap.size 24 ((Ur.mk xl yl fs).arr A c) ∧ Blk w8 w2.heap.size 24 ((Ur.mk u1.h u1.p fs).arr A c) ∧ Blk w8 w4.heap.size 24 ((Ur.mk u2.h yl u2.q).arr A2 c2) ∧ Blk w8 w6.heap.size 24 ((Ur.mk xl u3.p u3.q).arr A3 c3) := ⟨hS0.1.below hbn hS0.1.lt, hS0.2.1.below hbn hS0.2.1.lt, hS0.2.2.1.below hbn hS0.2.2.1.lt, hS0.2.2.2.below hbn hS0.2.2.2.lt⟩
        refine hK.out _ _ hS8 (fun hHeld => ?_)
        clear hK K hbn
        (try simp only [List.getElem_toArray, List.getElem_cons_zero, List.getElem_cons_succ, Act.put, List.setIfInBounds_toArray, List.set_cons_zero, List.set_cons_succ])
        simp only [Ur.arr]
        refine wpAnyH_ready (rs := [6]) (by kernel_rfl) (by simp) ?_
        refine AllReadyH.cons rfl (fun K hK => ?_) AllReadyH.nil
        go_simp
        refine hK.out _ _ (show Blk (w8.alloc _) _ _ _ ∧ Blk (w8.alloc _) _ _ _ ∧ Blk (w8.alloc _) _ _ _ ∧ Blk (w8.alloc _) _ _ _ from ⟨hS8.1.alloc _, hS8.2.1.alloc _, hS8.2.2.1.alloc _, hS8.2.2.2.alloc _⟩) (fun hHeld => ?_)
        clear hK K
        (try simp only [List.getElem_toArray, List.getElem_cons_zero, List.getElem_cons_succ, Act.put, List.setIfInBounds_toArray, List.set_cons_zero, List.set_cons_succ])
        first | (refine wpAnyH_take (i := 7) (v := _) rfl (by kernel_rfl) (by kernel_rfl) (by kernel_rfl) (fun _ _ _ h => h) (Or.inr ⟨?_, rfl⟩) (by assumption) ?_; rfl) | (refine wpAnyH_take (i := 7) (v := ?_) rfl (by kernel_rfl) (by kernel_rfl) (by kernel_rfl) (fun _ _ _ h => h) (Or.inl ⟨?_, ?_⟩) (by assumption) ?_; rotate_left; rfl; focus (intro w hSw; (try dsimp only at hSw); go_simp; all_goals (with_reducible rfl)))
        (try simp only [List.getElem_toArray, List.getElem_cons_zero, List.getElem_cons_succ, Act.put, List.setIfInBounds_toArray, List.set_cons_zero, List.set_cons_succ])
        refine wpAnyH_done (by kernel_rfl) ?_ _
        clear hHeld
        have hrow := row5 w8 (Ur.mk xl yl fs, A, c) (Ur.mk u1.h u1.p fs, A, c) (Ur.mk u2.h yl u2.q, A2, c2) (Ur.mk xl u3.p u3.q, A3, c3) (u4, A4, c4)
        have hb9 := HB8.out.alloc HB8.out.size (.cells #[.string ⟨xl.toArray⟩, .string ⟨yl.toArray⟩, .slice A fs.length c, .string ⟨u1.h.toArray⟩, .string ⟨u1.p.toArray⟩, .slice A fs.length c, .string ⟨u2.h.toArray⟩, .string ⟨yl.toArray⟩, .slice A2 u2.q.length c2, .string ⟨xl.toArray⟩, .string ⟨u3.p.toArray⟩, .slice A3 u3.q.length c3, .string ⟨u4.h.toArray⟩, .string ⟨u4.p.toArray⟩, .slice A4 u4.q.length c4] 24)
        have hal8 : Below w8.heap.size w8 (w8.alloc (.cells #[.string ⟨xl.toArray⟩, .string ⟨yl.toArray⟩, .slice A fs.length c, .string ⟨u1.h.toArray⟩, .string ⟨u1.p.toArray⟩, .slice A fs.length c, .string ⟨u2.h.toArray⟩, .string ⟨yl.toArray⟩, .slice A2 u2.q.length c2, .string ⟨xl.toArray⟩, .string ⟨u3.p.toArray⟩, .slice A3 u3.q.length c3, .string ⟨u4.h.toArray⟩, .string ⟨u4.p.toArray⟩, .slice A4 u4.q.length c4] 24)) := (Below.refl _ _).alloc (Nat.le_refl _) _
        have hq1 := (mayB_parts hm1).2.2.1
        have hq2 := (mayB_parts hm2).2.2.1
        have hq3 := (mayB_parts hm3).2.2.1
        have hq4 := (mayB_parts hm4).2.2.1
        have hel : ∀ e ∈ [(Ur.mk xl yl fs, A, c), (Ur.mk u1.h u1.p fs, A, c), (Ur.mk u2.h yl u2.q, A2, c2), (Ur.mk xl u3.p u3.q, A3, c3), (u4, A4, c4)], UrAt (w8.alloc (.cells #[.string ⟨xl.toArray⟩, .string ⟨yl.toArray⟩, .slice A fs.length c, .string ⟨u1.h.toArray⟩, .string ⟨u1.p.toArray⟩, .slice A fs.length c, .string ⟨u2.h.toArray⟩, .string ⟨yl.toArray⟩, .slice A2 u2.q.length c2, .string ⟨xl.toArray⟩, .string ⟨u3.p.toArray⟩, .slice A3 u3.q.length c3, .string ⟨u4.h.toArray⟩, .string ⟨u4.p.toArray⟩, .slice A4 u4.q.length c4] 24)) e.2.1 e.2.2 e.1 ∧ e.1.q.length ≤ 4000 := by
          intro e he
          simp only [List.mem_cons, List.not_mem_nil, or_false] at he
          rcases he with rfl | rfl | rfl | rfl | rfl
          · exact ⟨⟨HF.out.below hb9, show xl.length ≤ 10000 by omega, show yl.length ≤ 10000 by omega, show sumF fs ≤ 10000 by omega⟩, hfq⟩
          · exact ⟨⟨HF.out.below hb9, HU1.out.2.1, HU1.out.2.2.1, show sumF fs ≤ 10000 by omega⟩, hfq⟩
          · exact ⟨⟨(HU2.out.below (below_next HE48.out hal8)).1, HU2.out.2.1, show yl.length ≤ 10000 by omega, HU2.out.2.2.2⟩, show u2.q.length ≤ 4000 by omega⟩
          · exact ⟨⟨(HU3.out.below (below_next HE68.out hal8)).1, show xl.length ≤ 10000 by omega, HU3.out.2.2.1, HU3.out.2.2.2⟩, show u3.q.length ≤ 4000 by omega⟩
          · exact ⟨HU4.out.below hal8, show u4.q.length ≤ 4000 by omega⟩
        obtain ⟨L, hLe⟩ : ∃ L, [(Ur.mk xl yl fs, A, c), (Ur.mk u1.h u1.p fs, A, c), (Ur.mk u2.h yl u2.q, A2, c2), (Ur.mk xl u3.p u3.q, A3, c3), (u4, A4, c4)] = L := ⟨_, rfl⟩
        have hL5 : Hid (L.length = 5) := by show _ = _; rw [← hLe]; rfl
        rw [hLe] at hel
        have hrow2 : RowU (w8.alloc (.cells #[.string ⟨xl.toArray⟩, .string ⟨yl.toArray⟩, .slice A fs.length c, .string ⟨u1.h.toArray⟩, .string ⟨u1.p.toArray⟩, .slice A fs.length c, .string ⟨u2.h.toArray⟩, .string ⟨yl.toArray⟩, .slice A2 u2.q.length c2, .string ⟨xl.toArray⟩, .string ⟨u3.p.toArray⟩, .slice A3 u3.q.length c3, .string ⟨u4.h.toArray⟩, .string ⟨u4.p.toArray⟩, .slice A4 u4.q.length c4] 24)) w8.heap.size L := by
          rw [← hLe]
          exact hrow
        have HRW := Lib.hid hrow2
        have HEL := Lib.hid hel
        have HB9 := Lib.hid hb9
        clear hrow hrow2 hel hb9 hal8 hLe hS8 hS0 HK7 HQ7 HR7 HT7 HB7 HE4 HE6 HE48 HE68 HB8 HU1 HU2 HU3 HU4 hm1 hm2 hm3 hm4 hq1 hq2 hq3 hq4
        go_wp2_with fail
        generalize w8.alloc (.cells #[.string ⟨xl.toArray⟩, .string ⟨yl.toArray⟩, .slice A fs.length c, .string ⟨u1.h.toArray⟩, .string ⟨u1.p.toArray⟩, .slice A fs.length c, .string ⟨u2.h.toArray⟩, .string ⟨yl.toArray⟩, .slice A2 u2.q.length c2, .string ⟨xl.toArray⟩, .string ⟨u3.p.toArray⟩, .slice A3 u3.q.length c3, .string ⟨u4.h.toArray⟩, .string ⟨u4.p.toArray⟩, .slice A4 u4.q.length c4] 24) = W9 at HRW HEL HB9 ⊢
        generalize w8.heap.size = g at HRW ⊢
        go_loopw [11] (fun iv wr => ∃ i : Nat, i ≤ 5 ∧ iv = .int .i64 i ∧ Hid (RowU wr g L) ∧ Hid (Below W9.heap.size W9 wr) ∧ Hid (Below w.heap.size w wr)) (fun iv _ => 5 - (intOf iv).toNat)
        case atStart => exact ⟨0, by omega, rfl, HRW, Below.refl _ _, HB9⟩
        case round =>
          clear HRW HB9
          obtain ⟨i, hi, rfl, HR, HW, HB⟩ := hrel
          by_cases hlt : i < 5
          · obtain ⟨⟨eu, eA, ec⟩, hy⟩ : ∃ y, L[i]? = some y := ⟨_, List.getElem?_eq_getElem (by have := hL5.out; omega)⟩
            have HY := Lib.hid hy
            have hue := HEL.out _ (List.mem_of_getElem? hy)
            have hq := hue.2
            have HW0 : Hid (Below W9.heap.size W9 wr.drew) := HW.out.drew
            have HR0 : Hid (RowU wr.drew g L) := HR.out
            have HB0 : Hid (Below w.heap.size w wr.drew) := HB.out.drew
            have HE0 : Hid (UrAt wr.drew eA ec eu) := hue.1.below HW0.out
            have hS0 := HR0.out.2 i _ hy
            have hki : (i : Int) < 5 := by omega
            clear hy hue
            go_wp2_with fail
            refine wp_region_held_drew (S := fun W => ∀ j v, (eu.arr eA ec).toList[j]? = some v → W.cell? ((⟨g, i * 3, none⟩ : Addr).add j) = some v) (by kernel_rfl) hS0 (fun hHeld => ?_)
            first | (refine wpAnyH_take (i := 0) (v := _) rfl (by kernel_rfl) (by kernel_rfl) (by kernel_rfl) (fun _ _ _ h => h) (Or.inr ⟨?_, rfl⟩) (by assumption) ?_; rfl) | (refine wpAnyH_take (i := 0) (v := ?_) rfl (by kernel_rfl) (by kernel_rfl) (by kernel_rfl) (fun _ _ _ h => h) (Or.inl ⟨?_, ?_⟩) (by assumption) ?_; rotate_left; rfl; focus (intro w hSw; (try dsimp only at hSw); go_simp; all_goals (with_reducible rfl)))
            (try simp only [List.getElem_toArray, List.getElem_cons_zero, List.getElem_cons_succ, Act.put, List.setIfInBounds_toArray, List.set_cons_zero, List.set_cons_succ])
            first | (refine wpAnyH_take (i := 1) (v := _) rfl (by kernel_rfl) (by kernel_rfl) (by kernel_rfl) (fun _ _ _ h => h) (Or.inr ⟨?_, rfl⟩) (by assumption) ?_; rfl) | (refine wpAnyH_take (i := 1) (v := ?_) rfl (by kernel_rfl) (by kernel_rfl) (by kernel_rfl) (fun _ _ _ h => h) (Or.inl ⟨?_, ?_⟩) (by assumption) ?_; rotate_left; rfl; focus (intro w hSw; (try dsimp only at hSw); go_simp; all_goals (with_reducible rfl)))
            (try simp only [List.getElem_toArray, List.getElem_cons_zero, List.getElem_cons_succ, Act.put, List.setIfInBounds_toArray, List.set_cons_zero, List.set_cons_succ])
            first | (refine wpAnyH_take (i := 2) (v := _) rfl (by kernel_rfl) (by kernel_rfl) (by kernel_rfl) (fun _ _ _ h => h) (Or.inr ⟨?_, rfl⟩) (by assumption) ?_; rfl) | (refine wpAnyH_take (i := 2) (v := ?_) rfl (by kernel_rfl) (by kernel_rfl) (by kernel_rfl) (fun _ _ _ h => h) (Or.inl ⟨?_, ?_⟩) (by assumption) ?_; rotate_left; rfl; focus (intro w hSw; (try dsimp only at hSw); go_simp; all_goals (with_reducible rfl)))
            (try simp only [List.getElem_toArray, List.getElem_cons_zero, List.getElem_cons_succ, Act.put, List.setIfInBounds_toArray, List.set_cons_zero, List.set_cons_succ])
            refine wpAnyH_take (i := 3) (v := _) rfl (by kernel_rfl) (by kernel_rfl) (by kernel_rfl) (fun _ _ _ h => h) (yieldsIf_load_urA (by rfl) _ rfl ⟨g, i * 3, none⟩ rfl eu eA ec (fun w h => h)) (by assumption) ?_
            (try simp only [List.getElem_toArray, List.getElem_cons_zero, List.getElem_cons_succ, Act.put, List.setIfInBounds_toArray, List.set_cons_zero, List.set_cons_succ])
            first | (refine wpAnyH_take (i := 5) (v := _) rfl (by kernel_rfl) (by kernel_rfl) (by kernel_rfl) (fun _ _ _ h => h) (Or.inr ⟨?_, rfl⟩) (by assumption) ?_; rfl) | (refine wpAnyH_take (i := 5) (v := ?_) rfl (by kernel_rfl) (by kernel_rfl) (by kernel_rfl) (fun _ _ _ h => h) (Or.inl ⟨?_, ?_⟩) (by assumption) ?_; rotate_left; rfl; focus (intro w hSw; (try dsimp only at hSw); go_simp; all_goals (with_reducible rfl)))
            (try simp only [List.getElem_toArray, List.getElem_cons_zero, List.getElem_cons_succ, Act.put, List.setIfInBounds_toArray, List.set_cons_zero, List.set_cons_succ])
            first | (refine wpAnyH_take (i := 6) (v := _) rfl (by kernel_rfl) (by kernel_rfl) (by kernel_rfl) (fun _ _ _ h => h) (Or.inr ⟨?_, rfl⟩) (by assumption) ?_; rfl) | (refine wpAnyH_take (i := 6) (v := ?_) rfl (by kernel_rfl) (by kernel_rfl) (by kernel_rfl) (fun _ _ _ h => h) (Or.inl ⟨?_, ?_⟩) (by assumption) ?_; rotate_left; rfl; focus (intro w hSw; (try dsimp only at hSw); go_simp; all_goals (with_reducible rfl)))
            (try simp only [List.getElem_toArray, List.getElem_cons_zero, List.getElem_cons_succ, Act.put, List.setIfInBounds_toArray, List.set_cons_zero, List.set_cons_succ])
            first | (refine wpAnyH_take (i := 7) (v := _) rfl (by kernel_rfl) (by kernel_rfl) (by kernel_rfl) (fun _ _ _ h => h) (Or.inr ⟨?_, rfl⟩) (by assumption) ?_; rfl) | (refine wpAnyH_take (i := 7) (v := ?_) rfl (by kernel_rfl) (by kernel_rfl) (by kernel_rfl) (fun _ _ _ h => h) (Or.inl ⟨?_, ?_⟩) (by assumption) ?_; rotate_left; rfl; focus (intro w hSw; (try dsimp only at hSw); go_simp; all_goals (with_reducible rfl)))
            (try simp only [List.getElem_toArray, List.getElem_cons_zero, List.getElem_cons_succ, Act.put, List.setIfInBounds_toArray, List.set_cons_zero, List.set_cons_succ])
            refine wpAnyH_take (i := 8) (v := _) rfl (by kernel_rfl) (by kernel_rfl) (by kernel_rfl) (fun _ _ _ h => h) (yieldsIf_load_urA (by rfl) _ rfl ⟨g, i * 3, none⟩ rfl eu eA ec (fun w h => h)) (by assumption) ?_
            (try simp only [List.getElem_toArray, List.getElem_cons_zero, List.getElem_cons_succ, Act.put, List.setIfInBounds_toArray, List.set_cons_zero, List.set_cons_succ])
            refine wpAnyH_ready (rs := [4]) (by kernel_rfl) (by simp) ?_
            refine AllReadyH.cons rfl (fun K hK => ?_) AllReadyH.nil
            go_simp
            go_at_call 8
            with_reducible refine (may_walk eu eA ec _ HE0.out (HD.out.below HB0.out) hq).mono ?_
            rintro _ v1 ⟨rfl, hbn⟩
            have HR1 := Lib.hid (HR0.out.below hbn HR0.out.1)
            have HB1 := Lib.hid (below_next HB0.out hbn)
            have HE1 := Lib.hid (HE0.out.below hbn)
            have HW1 := Lib.hid (below_next HW0.out hbn)
            refine hK.out _ _ (HR1.out.2 i _ HY.out) (fun hHeld => ?_)
            clear hK K hbn
            (try simp only [List.getElem_toArray, List.getElem_cons_zero, List.getElem_cons_succ, Act.put, List.setIfInBounds_toArray, List.set_cons_zero, List.set_cons_succ])
            refine wpAnyH_ready (rs := [9]) (by kernel_rfl) (by simp) ?_
            refine AllReadyH.cons rfl (fun K hK => ?_) AllReadyH.nil
            go_simp
            go_at_call 9
            with_reducible refine (rmay_walk eu eA ec _ HE1.out hq).mono ?_
            rintro _ v2 ⟨rfl, hbn⟩
            have HR2 := Lib.hid (HR1.out.below hbn HR1.out.1)
            have HB2 := Lib.hid (below_next HB1.out hbn)
            have HE2 := Lib.hid (HE1.out.below hbn)
            have HW2 := Lib.hid (below_next HW1.out hbn)
            refine hK.out _ _ (HR2.out.2 i _ HY.out) (fun hHeld => ?_)
            clear hK K hbn
            (try simp only [List.getElem_toArray, List.getElem_cons_zero, List.getElem_cons_succ, Act.put, List.setIfInBounds_toArray, List.set_cons_zero, List.set_cons_succ])
            first | (refine wpAnyH_take (i := 10) (v := _) rfl (by kernel_rfl) (by kernel_rfl) (by kernel_rfl) (fun _ _ _ h => h) (Or.inr ⟨?_, rfl⟩) (by assumption) ?_; rfl) | (refine wpAnyH_take (i := 10) (v := ?_) rfl (by kernel_rfl) (by kernel_rfl) (by kernel_rfl) (fun _ _ _ h => h) (Or.inl ⟨?_, ?_⟩) (by assumption) ?_; rotate_left; rfl; focus (intro w hSw; (try dsimp only at hSw); go_simp; all_goals (with_reducible rfl)))
            (try simp only [List.getElem_toArray, List.getElem_cons_zero, List.getElem_cons_succ, Act.put, List.setIfInBounds_toArray, List.set_cons_zero, List.set_cons_succ])
            first | (refine wpAnyH_take (i := 11) (v := _) rfl (by kernel_rfl) (by kernel_rfl) (by kernel_rfl) (fun _ _ _ h => h) (Or.inr ⟨?_, rfl⟩) (by assumption) ?_; rfl) | (refine wpAnyH_take (i := 11) (v := ?_) rfl (by kernel_rfl) (by kernel_rfl) (by kernel_rfl) (fun _ _ _ h => h) (Or.inl ⟨?_, ?_⟩) (by assumption) ?_; rotate_left; rfl; focus (intro w hSw; (try dsimp only at hSw); go_simp; all_goals (with_reducible rfl)))
            (try simp only [List.getElem_toArray, List.getElem_cons_zero, List.getElem_cons_succ, Act.put, List.setIfInBounds_toArray, List.set_cons_zero, List.set_cons_succ])
            first | (refine wpAnyH_take (i := 12) (v := _) rfl (by kernel_rfl) (by kernel_rfl) (by kernel_rfl) (fun _ _ _ h => h) (Or.inr ⟨?_, rfl⟩) (by assumption) ?_; rfl) | (refine wpAnyH_take (i := 12) (v := ?_) rfl (by kernel_rfl) (by kernel_rfl) (by kernel_rfl) (fun _ _ _ h => h) (Or.inl ⟨?_, ?_⟩) (by assumption) ?_; rotate_left; rfl; focus (intro w hSw; (try dsimp only at hSw); go_simp; all_goals (with_reducible rfl)))
            (try simp only [List.getElem_toArray, List.getElem_cons_zero, List.getElem_cons_succ, Act.put, List.setIfInBounds_toArray, List.set_cons_zero, List.set_cons_succ])
            first | (refine wpAnyH_take (i := 13) (v := _) rfl (by kernel_rfl) (by kernel_rfl) (by kernel_rfl) (fun _ _ _ h => h) (Or.inr ⟨?_, rfl⟩) (by assumption) ?_; rfl) | (refine wpAnyH_take (i := 13) (v := ?_) rfl (by kernel_rfl) (by kernel_rfl) (by kernel_rfl) (fun _ _ _ h => h) (Or.inl ⟨?_, ?_⟩) (by assumption) ?_; rotate_left; rfl; focus (intro w hSw; (try dsimp only at hSw); go_simp; all_goals (with_reducible rfl)))
            (try simp only [List.getElem_toArray, List.getElem_cons_zero, List.getElem_cons_succ, Act.put, List.setIfInBounds_toArray, List.set_cons_zero, List.set_cons_succ])
            first | (refine wpAnyH_take (i := 14) (v := _) rfl (by kernel_rfl) (by kernel_rfl) (by kernel_rfl) (fun _ _ _ h => h) (Or.inr ⟨?_, rfl⟩) (by assumption) ?_; rfl) | (refine wpAnyH_take (i := 14) (v := ?_) rfl (by kernel_rfl) (by kernel_rfl) (by kernel_rfl) (fun _ _ _ h => h) (Or.inl ⟨?_, ?_⟩) (by assumption) ?_; rotate_left; rfl; focus (intro w hSw; (try dsimp only at hSw); go_simp; all_goals (with_reducible rfl)))
            (try simp only [List.getElem_toArray, List.getElem_cons_zero, List.getElem_cons_succ, Act.put, List.setIfInBounds_toArray, List.set_cons_zero, List.set_cons_succ])
            refine wpAnyH_take (i := 15) (v := _) rfl (by kernel_rfl) (by kernel_rfl) (by kernel_rfl) (fun _ _ _ h => h) (yieldsIf_load_urA (by rfl) _ rfl ⟨g, i * 3, none⟩ rfl eu eA ec (fun w h => h)) (by assumption) ?_
            (try simp only [List.getElem_toArray, List.getElem_cons_zero, List.getElem_cons_succ, Act.put, List.setIfInBounds_toArray, List.set_cons_zero, List.set_cons_succ])
            first | (refine wpAnyH_take (i := 17) (v := _) rfl (by kernel_rfl) (by kernel_rfl) (by kernel_rfl) (fun _ _ _ h => h) (Or.inr ⟨?_, rfl⟩) (by assumption) ?_; rfl) | (refine wpAnyH_take (i := 17) (v := ?_) rfl (by kernel_rfl) (by kernel_rfl) (by kernel_rfl) (fun _ _ _ h => h) (Or.inl ⟨?_, ?_⟩) (by assumption) ?_; rotate_left; rfl; focus (intro w hSw; (try dsimp only at hSw); go_simp; all_goals (with_reducible rfl)))
            (try simp only [List.getElem_toArray, List.getElem_cons_zero, List.getElem_cons_succ, Act.put, List.setIfInBounds_toArray, List.set_cons_zero, List.set_cons_succ])
            first | (refine wpAnyH_take (i := 18) (v := _) rfl (by kernel_rfl) (by kernel_rfl) (by kernel_rfl) (fun _ _ _ h => h) (Or.inr ⟨?_, rfl⟩) (by assumption) ?_; rfl) | (refine wpAnyH_take (i := 18) (v := ?_) rfl (by kernel_rfl) (by kernel_rfl) (by kernel_rfl) (fun _ _ _ h => h) (Or.inl ⟨?_, ?_⟩) (by assumption) ?_; rotate_left; rfl; focus (intro w hSw; (try dsimp only at hSw); go_simp; all_goals (with_reducible rfl)))
            (try simp only [List.getElem_toArray, List.getElem_cons_zero, List.getElem_cons_succ, Act.put, List.setIfInBounds_toArray, List.set_cons_zero, List.set_cons_succ])
            first | (refine wpAnyH_take (i := 19) (v := _) rfl (by kernel_rfl) (by kernel_rfl) (by kernel_rfl) (fun _ _ _ h => h) (Or.inr ⟨?_, rfl⟩) (by assumption) ?_; rfl) | (refine wpAnyH_take (i := 19) (v := ?_) rfl (by kernel_rfl) (by kernel_rfl) (by kernel_rfl) (fun _ _ _ h => h) (Or.inl ⟨?_, ?_⟩) (by assumption) ?_; rotate_left; rfl; focus (intro w hSw; (try dsimp only at hSw); go_simp; all_goals (with_reducible rfl)))
            (try simp only [List.getElem_toArray, List.getElem_cons_zero, List.getElem_cons_succ, Act.put, List.setIfInBounds_toArray, List.set_cons_zero, List.set_cons_succ])
            refine wpAnyH_take (i := 20) (v := _) rfl (by kernel_rfl) (by kernel_rfl) (by kernel_rfl) (fun _ _ _ h => h) (yieldsIf_load_urA (by rfl) _ rfl ⟨g, i * 3, none⟩ rfl eu eA ec (fun w h => h)) (by assumption) ?_
            (try simp only [List.getElem_toArray, List.getElem_cons_zero, List.getElem_cons_succ, Act.put, List.setIfInBounds_toArray, List.set_cons_zero, List.set_cons_succ])
            refine wpAnyH_ready (rs := [16]) (by kernel_rfl) (by simp) ?_
            refine AllReadyH.cons rfl (fun K hK => ?_) AllReadyH.nil
            go_simp
            go_at_call 10
            with_reducible refine (printu_walk eu eA ec _ HE2.out hq (HD.out.below HB2.out)).mono ?_
            rintro _ v3 ⟨rfl, hbn⟩
            have HR3 := Lib.hid (HR2.out.below hbn HR2.out.1)
            have HB3 := Lib.hid (below_next HB2.out hbn)
            have HE3 := Lib.hid (HE2.out.below hbn)
            have HW3 := Lib.hid (below_next HW2.out hbn)
            refine hK.out _ _ (HR3.out.2 i _ HY.out) (fun hHeld => ?_)
            clear hK K hbn
            (try simp only [List.getElem_toArray, List.getElem_cons_zero, List.getElem_cons_succ, Act.put, List.setIfInBounds_toArray, List.set_cons_zero, List.set_cons_succ])
            refine wpAnyH_ready (rs := [21]) (by kernel_rfl) (by simp) ?_
            refine AllReadyH.cons rfl (fun K hK => ?_) AllReadyH.nil
            go_simp
            go_at_call 11
            with_reducible refine (rprintu_walk eu eA ec _ HE3.out hq).mono ?_
            rintro _ v4 ⟨rfl, hbn⟩
            have HR4 := Lib.hid (HR3.out.below hbn HR3.out.1)
            have HB4 := Lib.hid (below_next HB3.out hbn)
            have HE4 := Lib.hid (HE3.out.below hbn)
            have HW4 := Lib.hid (below_next HW3.out hbn)
            refine hK.out _ _ (HR4.out.2 i _ HY.out) (fun hHeld => ?_)
            clear hK K hbn
            (try simp only [List.getElem_toArray, List.getElem_cons_zero, List.getElem_cons_succ, Act.put, List.setIfInBounds_toArray, List.set_cons_zero, List.set_cons_succ])
            first | (refine wpAnyH_take (i := 22) (v := _) rfl (by kernel_rfl) (by kernel_rfl) (by kernel_rfl) (fun _ _ _ h => h) (Or.inr ⟨?_, rfl⟩) (by assumption) ?_; rfl) | (refine wpAnyH_take (i := 22) (v := ?_) rfl (by kernel_rfl) (by kernel_rfl) (by kernel_rfl) (fun _ _ _ h => h) (Or.inl ⟨?_, ?_⟩) (by assumption) ?_; rotate_left; rfl; focus (intro w hSw; (try dsimp only at hSw); go_simp; all_goals (with_reducible rfl)))
            (try simp only [List.getElem_toArray, List.getElem_cons_zero, List.getElem_cons_succ, Act.put, List.setIfInBounds_toArray, List.set_cons_zero, List.set_cons_succ])
            first | (refine wpAnyH_take (i := 23) (v := _) rfl (by kernel_rfl) (by kernel_rfl) (by kernel_rfl) (fun _ _ _ h => h) (Or.inr ⟨?_, rfl⟩) (by assumption) ?_; rfl) | (refine wpAnyH_take (i := 23) (v := ?_) rfl (by kernel_rfl) (by kernel_rfl) (by kernel_rfl) (fun _ _ _ h => h) (Or.inl ⟨?_, ?_⟩) (by assumption) ?_; rotate_left; rfl; focus (intro w hSw; (try dsimp only at hSw); go_simp; all_goals (with_reducible rfl)))
            (try simp only [List.getElem_toArray, List.getElem_cons_zero, List.getElem_cons_succ, Act.put, List.setIfInBounds_toArray, List.set_cons_zero, List.set_cons_succ])
            first | (refine wpAnyH_take (i := 24) (v := _) rfl (by kernel_rfl) (by kernel_rfl) (by kernel_rfl) (fun _ _ _ h => h) (Or.inr ⟨?_, rfl⟩) (by assumption) ?_; rfl) | (refine wpAnyH_take (i := 24) (v := ?_) rfl (by kernel_rfl) (by kernel_rfl) (by kernel_rfl) (fun _ _ _ h => h) (Or.inl ⟨?_, ?_⟩) (by assumption) ?_; rotate_left; rfl; focus (intro w hSw; (try dsimp only at hSw); go_simp; all_goals (with_reducible rfl)))
            (try simp only [List.getElem_toArray, List.getElem_cons_zero, List.getElem_cons_succ, Act.put, List.setIfInBounds_toArray, List.set_cons_zero, List.set_cons_succ])
            first | (refine wpAnyH_take (i := 25) (v := _) rfl (by kernel_rfl) (by kernel_rfl) (by kernel_rfl) (fun _ _ _ h => h) (Or.inr ⟨?_, rfl⟩) (by assumption) ?_; rfl) | (refine wpAnyH_take (i := 25) (v := ?_) rfl (by kernel_rfl) (by kernel_rfl) (by kernel_rfl) (fun _ _ _ h => h) (Or.inl ⟨?_, ?_⟩) (by assumption) ?_; rotate_left; rfl; focus (intro w hSw; (try dsimp only at hSw); go_simp; all_goals (with_reducible rfl)))
            (try simp only [List.getElem_toArray, List.getElem_cons_zero, List.getElem_cons_succ, Act.put, List.setIfInBounds_toArray, List.set_cons_zero, List.set_cons_succ])
            first | (refine wpAnyH_take (i := 26) (v := _) rfl (by kernel_rfl) (by kernel_rfl) (by kernel_rfl) (fun _ _ _ h => h) (Or.inr ⟨?_, rfl⟩) (by assumption) ?_; rfl) | (refine wpAnyH_take (i := 26) (v := ?_) rfl (by kernel_rfl) (by kernel_rfl) (by kernel_rfl) (fun _ _ _ h => h) (Or.inl ⟨?_, ?_⟩) (by assumption) ?_; rotate_left; rfl; focus (intro w hSw; (try dsimp only at hSw); go_simp; all_goals (with_reducible rfl)))
            (try simp only [List.getElem_toArray, List.getElem_cons_zero, List.getElem_cons_succ, Act.put, List.setIfInBounds_toArray, List.set_cons_zero, List.set_cons_succ])
            first | (refine wpAnyH_take (i := 27) (v := _) rfl (by kernel_rfl) (by kernel_rfl) (by kernel_rfl) (fun _ _ _ h => h) (Or.inr ⟨?_, rfl⟩) (by assumption) ?_; rfl) | (refine wpAnyH_take (i := 27) (v := ?_) rfl (by kernel_rfl) (by kernel_rfl) (by kernel_rfl) (fun _ _ _ h => h) (Or.inl ⟨?_, ?_⟩) (by assumption) ?_; rotate_left; rfl; focus (intro w hSw; (try dsimp only at hSw); go_simp; all_goals (with_reducible rfl)))
            (try simp only [List.getElem_toArray, List.getElem_cons_zero, List.getElem_cons_succ, Act.put, List.setIfInBounds_toArray, List.set_cons_zero, List.set_cons_succ])
            refine wpAnyH_take (i := 28) (v := _) rfl (by kernel_rfl) (by kernel_rfl) (by kernel_rfl) (fun _ _ _ h => h) (yieldsIf_load_urA (by rfl) _ rfl ⟨g, i * 3, none⟩ rfl eu eA ec (fun w h => h)) (by assumption) ?_
            (try simp only [List.getElem_toArray, List.getElem_cons_zero, List.getElem_cons_succ, Act.put, List.setIfInBounds_toArray, List.set_cons_zero, List.set_cons_succ])
            first | (refine wpAnyH_take (i := 30) (v := _) rfl (by kernel_rfl) (by kernel_rfl) (by kernel_rfl) (fun _ _ _ h => h) (Or.inr ⟨?_, rfl⟩) (by assumption) ?_; rfl) | (refine wpAnyH_take (i := 30) (v := ?_) rfl (by kernel_rfl) (by kernel_rfl) (by kernel_rfl) (fun _ _ _ h => h) (Or.inl ⟨?_, ?_⟩) (by assumption) ?_; rotate_left; rfl; focus (intro w hSw; (try dsimp only at hSw); go_simp; all_goals (with_reducible rfl)))
            (try simp only [List.getElem_toArray, List.getElem_cons_zero, List.getElem_cons_succ, Act.put, List.setIfInBounds_toArray, List.set_cons_zero, List.set_cons_succ])
            first | (refine wpAnyH_take (i := 31) (v := _) rfl (by kernel_rfl) (by kernel_rfl) (by kernel_rfl) (fun _ _ _ h => h) (Or.inr ⟨?_, rfl⟩) (by assumption) ?_; rfl) | (refine wpAnyH_take (i := 31) (v := ?_) rfl (by kernel_rfl) (by kernel_rfl) (by kernel_rfl) (fun _ _ _ h => h) (Or.inl ⟨?_, ?_⟩) (by assumption) ?_; rotate_left; rfl; focus (intro w hSw; (try dsimp only at hSw); go_simp; all_goals (with_reducible rfl)))
            (try simp only [List.getElem_toArray, List.getElem_cons_zero, List.getElem_cons_succ, Act.put, List.setIfInBounds_toArray, List.set_cons_zero, List.set_cons_succ])
            first | (refine wpAnyH_take (i := 32) (v := _) rfl (by kernel_rfl) (by kernel_rfl) (by kernel_rfl) (fun _ _ _ h => h) (Or.inr ⟨?_, rfl⟩) (by assumption) ?_; rfl) | (refine wpAnyH_take (i := 32) (v := ?_) rfl (by kernel_rfl) (by kernel_rfl) (by kernel_rfl) (fun _ _ _ h => h) (Or.inl ⟨?_, ?_⟩) (by assumption) ?_; rotate_left; rfl; focus (intro w hSw; (try dsimp only at hSw); go_simp; all_goals (with_reducible rfl)))
            (try simp only [List.getElem_toArray, List.getElem_cons_zero, List.getElem_cons_succ, Act.put, List.setIfInBounds_toArray, List.set_cons_zero, List.set_cons_succ])
            refine wpAnyH_take (i := 33) (v := _) rfl (by kernel_rfl) (by kernel_rfl) (by kernel_rfl) (fun _ _ _ h => h) (yieldsIf_load_urA (by rfl) _ rfl ⟨g, i * 3, none⟩ rfl eu eA ec (fun w h => h)) (by assumption) ?_
            (try simp only [List.getElem_toArray, List.getElem_cons_zero, List.getElem_cons_succ, Act.put, List.setIfInBounds_toArray, List.set_cons_zero, List.set_cons_succ])
            refine wpAnyH_ready (rs := [29]) (by kernel_rfl) (by simp) ?_
            refine AllReadyH.cons rfl (fun K hK => ?_) AllReadyH.nil
            go_simp
            go_at_call 12
            with_reducible refine (ttarget_walk eu eA ec _ HE4.out hq (HD.out.below HB4.out)).mono ?_
            rintro _ v5 ⟨rfl, hbn⟩
            have HR5 := Lib.hid (HR4.out.below hbn HR4.out.1)
            have HB5 := Lib.hid (below_next HB4.out hbn)
            have HE5 := Lib.hid (HE4.out.below hbn)
            have HW5 := Lib.hid (below_next HW4.out hbn)
            refine hK.out _ _ (HR5.out.2 i _ HY.out) (fun hHeld => ?_)
            clear hK K hbn
            (try simp only [List.getElem_toArray, List.getElem_cons_zero, List.getElem_cons_succ, Act.put, List.setIfInBounds_toArray, List.set_cons_zero, List.set_cons_succ])
            refine wpAnyH_ready (rs := [34]) (by kernel_rfl) (by simp) ?_
            refine AllReadyH.cons rfl (fun K hK => ?_) AllReadyH.nil
            go_simp
            go_at_call 13
            with_reducible refine (rttarget_walk eu eA ec _ HE5.out hq).mono ?_
            rintro _ v6 ⟨rfl, hbn⟩
            have HR6 := Lib.hid (HR5.out.below hbn HR5.out.1)
            have HB6 := Lib.hid (below_next HB5.out hbn)
            have HE6 := Lib.hid (HE5.out.below hbn)
            have HW6 := Lib.hid (below_next HW5.out hbn)
            refine hK.out _ _ (HR6.out.2 i _ HY.out) (fun hHeld => ?_)
            clear hK K hbn
            (try simp only [List.getElem_toArray, List.getElem_cons_zero, List.getElem_cons_succ, Act.put, List.setIfInBounds_toArray, List.set_cons_zero, List.set_cons_succ])
            first | (refine wpAnyH_take (i := 35) (v := _) rfl (by kernel_rfl) (by kernel_rfl) (by kernel_rfl) (fun _ _ _ h => h) (Or.inr ⟨?_, rfl⟩) (by assumption) ?_; rfl) | (refine wpAnyH_take (i := 35) (v := ?_) rfl (by kernel_rfl) (by kernel_rfl) (by kernel_rfl) (fun _ _ _ h => h) (Or.inl ⟨?_, ?_⟩) (by assumption) ?_; rotate_left; rfl; focus (intro w hSw; (try dsimp only at hSw); go_simp; all_goals (with_reducible rfl)))
            (try simp only [List.getElem_toArray, List.getElem_cons_zero, List.getElem_cons_succ, Act.put, List.setIfInBounds_toArray, List.set_cons_zero, List.set_cons_succ])
            first | (refine wpAnyH_take (i := 36) (v := _) rfl (by kernel_rfl) (by kernel_rfl) (by kernel_rfl) (fun _ _ _ h => h) (Or.inr ⟨?_, rfl⟩) (by assumption) ?_; rfl) | (refine wpAnyH_take (i := 36) (v := ?_) rfl (by kernel_rfl) (by kernel_rfl) (by kernel_rfl) (fun _ _ _ h => h) (Or.inl ⟨?_, ?_⟩) (by assumption) ?_; rotate_left; rfl; focus (intro w hSw; (try dsimp only at hSw); go_simp; all_goals (with_reducible rfl)))
            (try simp only [List.getElem_toArray, List.getElem_cons_zero, List.getElem_cons_succ, Act.put, List.setIfInBounds_toArray, List.set_cons_zero, List.set_cons_succ])
            refine wpAnyH_done (by kernel_rfl) ?_ _
            clear hHeld hS0
            go_wp2_with fail
            exact ⟨⟨i + 1, by omega, by go_num, HR6, HW6, HB6⟩, by simp [intOf]; omega⟩
          · clear HR HEL HW
            go_wp2_with fail
            refine (uri_walk zs D d wr (H.out.below HB.out)).mono ?_
            rintro _ x1 ⟨u5, A5, c5, rfl, hm5, hu5, hbn⟩
            have HBx := Lib.hid (below_next HB.out hbn)
            have cm := Lib.hid (may_walk u5 A5 c5 x1 hu5 (HD.out.below HBx.out) (by have := (mayB_parts hm5).2.2.1; omega))
            rw [hm5] at cm
            clear hbn hu5 hm5
            go_wp2_with fail
            refine cm.out.mono ?_
            rintro _ x2 ⟨rfl, hbn⟩
            have HBy := Lib.hid (below_next HBx.out hbn)
            clear hbn
            go_wp2_with fail
            go_ret
            exact ⟨rfl, HBy.out⟩
end Go.Proofs.YtolfcpbcccbmmaaDoor
