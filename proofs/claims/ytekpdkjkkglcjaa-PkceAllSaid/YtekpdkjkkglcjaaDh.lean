import Derived.Test.YtekpdkjkkglcjaaDg
import Derived.Deep.RegionHeld3
set_option linter.unusedVariables false
set_option linter.unusedSimpArgs false
set_option maxRecDepth 20000
namespace Go.Proofs.Ytekpdkjkkglcjaa
open Go.RowKit
/-- what Take answers -/
def takeT (l : List UInt8) : Except Int (Tm × Nat) :=
  match decT 16 l 0 0 with
  | .error c => .error c
  | .ok (t, q, _) => .ok (t, q)
def TakeR (l : List UInt8) (r : Except Int (Tm × Nat)) (w : World) (e : Ending) (w' : World) : Prop :=
  match r with
  | .error c => e = .returned (.tuple #[.agg #[.int .i64 0, .int .i64 0, .string ⟨#[]⟩, .slice none 0 0], .int .i64 0, .int .i64 c]) ∧ Below w.heap.size w w'
  | .ok (t, q) => ∃ (kd nm : Int) (s : ByteArray) (A : Option Addr) (m cp : Nat), e = .returned (.tuple #[.agg #[.int .i64 kd, .int .i64 nm, .string s, .slice A m cp], .int .i64 q, .int .i64 0]) ∧ TmV w' w.heap.size t [.int .i64 kd, .int .i64 nm, .string s, .slice A m cp] ∧ q ≤ l.length ∧ Below w.heap.size w w'
theorem results_c_tt {fn : Func} {p u v : Tmp} (h : fn.results = #[.cell p 35, .tmp u, .tmp v]) (tmps : Array Value) (w : World) (g : Nat) (c0 c1 c2 c3 : Value)
    (hp : tmps.getD p undef = .pointer (some ⟨g, 0, none⟩)) (hb : Blk w g 35 #[c0, c1, c2, c3]) : (results fn tmps).run Try.prog w = .ok (.tuple #[.agg #[c0, c1, c2, c3], tmps.getD u undef, tmps.getD v undef]) w := by
  have hp' : tmps[p]?.getD undef = .pointer (some ⟨g, 0, none⟩) := by simpa using hp
  simp [results, h, hp', asAddr, run_loadVar_row w g 35 35 #[c0, c1, c2, c3] (0, 0) _ hb Try.underlying35 rfl term_size]
theorem only_below {w w1 w2 : World} {g : Nat} (hb : Below w.heap.size w w1) (hg : w1.grownBy w2 (some g)) (hw : w.heap.size ≤ g) : Below w.heap.size w w2 :=
  hb.grown hg hb.size (fun q e => by injection e with e; omega)
theorem yieldsIf_load_term {ops : Array Oper} {S : World → Prop} {op : Oper} {a : Act} (hw : Region.wanted op (yielded ops a.tmps) = true) (x : Operand) (ho : op.op = .load 35 x)
    (ad : Addr) (hx : a.eval x = .pointer (some ad)) (c0 c1 c2 c3 : Value) (hS : ∀ w, S w → ∀ j u, [c0, c1, c2, c3][j]? = some u → w.cell? (ad.add j) = some u) : YieldsIf Try.prog ops S op (.agg #[c0, c1, c2, c3]) a :=
  .inl ⟨hw, fun w hw' => by
    unfold execOp
    simp only [ho, hx, Instr.loadAt, Instr.sureAddr, Sem.run_bind, Sem.run_pure, Result.andThen_ok, run_loadVar_at w ad 35 [c0, c1, c2, c3] _ (hS w hw') Try.underlying35 rfl term_size]⟩
theorem ta_nil (w : World) : (Instr.typeAssert .nilIface 71 60 true).run Try.prog w = .ok (.tuple #[.int .i64 0, .bool false]) w := by first | rfl | kernel_rfl
theorem ta_errno (k : Int) (w : World) : (Instr.typeAssert (.iface 60 (.int .i64 k)) 71 60 true).run Try.prog w = .ok (.tuple #[.int .i64 k, .bool true]) w := by first | rfl | kernel_rfl
set_option maxRecDepth 100000 in
set_option maxHeartbeats 4000000 in
theorem take_walk (l : List UInt8) (A : Option Addr) (c : Nat) (w : World) (hl : l.length ≤ 1000000) (hc : l.length ≤ c) (hc2 : c ≤ 9223372036854775807) (hr : Reads w w.heap.size 1 A l.length (Lib.byteCells l)) :
    Calls Try.prog 58 #[.slice A l.length c] w (TakeR l (takeT l) w) := by
  have hb1 := (Below.refl w.heap.size w).alloc (Nat.le_refl _) (.cells #[.int .i64 0, .int .i64 0, .string ⟨#[]⟩, .slice none 0 0] 35)
  have hb2 := hb1.alloc hb1.size (.cells #[.slice A l.length c, .int .i64 0, .int .i64 0] 87)
  have hsz : (w.alloc (.cells #[.int .i64 0, .int .i64 0, .string ⟨#[]⟩, .slice none 0 0] 35)).heap.size = w.heap.size + 1 := by simp
  have hrd : RdAt ((w.alloc (.cells #[.int .i64 0, .int .i64 0, .string ⟨#[]⟩, .slice none 0 0] 35)).alloc (.cells #[.slice A l.length c, .int .i64 0, .int .i64 0] 87)) (w.heap.size + 1) l 0 0 := by
    refine ⟨hl, Nat.zero_le _, by omega, A, c, hc, hc2, ?_, (hr.below hb2).more (Nat.le_succ _)⟩
    have := Blk.new (w.alloc (.cells #[.int .i64 0, .int .i64 0, .string ⟨#[]⟩, .slice none 0 0] 35)) 87 #[.slice A l.length c, .int .i64 0, .int .i64 0]
    rw [hsz] at this
    exact this
  have hbr : Blk ((w.alloc (.cells #[.int .i64 0, .int .i64 0, .string ⟨#[]⟩, .slice none 0 0] 35)).alloc (.cells #[.slice A l.length c, .int .i64 0, .int .i64 0] 87)) w.heap.size 35 #[.int .i64 0, .int .i64 0, .string ⟨#[]⟩, .slice none 0 0] := (Blk.new _ _ _).alloc _
  have ct := Lib.hid (term_all 16 (by omega) l (w.heap.size + 1) 0 0 1 _ (by omega) (by omega) hrd)
  have hta := ta_nil
  have hte := ta_errno
  have HB2 := Lib.hid hb2
  have HBR := Lib.hid hbr
  have hs2 : ((w.alloc (.cells #[.int .i64 0, .int .i64 0, .string ⟨#[]⟩, .slice none 0 0] 35)).alloc (.cells #[.slice A l.length c, .int .i64 0, .int .i64 0] 87)).heap.size = w.heap.size + 2 := by simp
  have HS2 := Lib.hid hs2
  cases hD : decT 16 l 0 0 with
  | error k =>
    have hv : Hid (takeT l = .error k) := by show _ = _; rw [takeT, hD]
    rw [hD] at ct
    clear hD hrd hb1 hb2 hr hbr hsz hs2
    go_enter Try.func58, Try.ntmps58
    go_wp2_with fail
    refine ct.out.mono ?_
    rintro _ w1 ⟨kd, nm, s, A1, m, cp, rfl, hg1⟩
    have hbq := (HBR.out.grown hg1 (fun e => by injection e with e; omega)).alloc (.cells #[.int .i64 kd, .int .i64 nm, .string s, .slice A1 m cp] 35)
    have hbw := only_below HB2.out hg1 (by omega)
    have HBW := Lib.hid (hbw.alloc hbw.size (.cells #[.int .i64 kd, .int .i64 nm, .string s, .slice A1 m cp] 35))
    clear hg1 ct hbw
    go_wp2_with (first
      | (refine wpList_store_fresh w1 rfl 35 _ _ rfl _ #[.int .i64 kd, .int .i64 nm, .string s, .slice A1 m cp] _ rfl rfl rfl term_size (ones4 _ _ _ _ _ _) ?_)
      | (refine wpList_store_blk rfl 35 _ _ rfl w.heap.size _ #[.int .i64 0, .int .i64 0, .string ⟨#[]⟩, .slice none 0 0] _ rfl rfl hbq rfl term_size (ones4 _ _ _ _ _ _) ?_))
    refine bodyPost_ret (results_c_tt Try.results58 _ _ w.heap.size _ _ _ _ rfl hbq.setRow) rfl ?_
    rw [hv.out]
    exact ⟨rfl, below_setRow HBW.out (Nat.le_refl _) _⟩
  | ok r =>
    obtain ⟨t, q, n'⟩ := r
    have hv : Hid (takeT l = .ok (t, q)) := by show _ = _; rw [takeT, hD]
    rw [hD] at ct
    clear hD hrd hb1 hb2 hr hbr hsz hs2
    go_enter Try.func58, Try.ntmps58
    go_wp2_with fail
    refine ct.out.mono ?_
    rintro _ w1 ⟨cs, rfl, htv, hr1, _, hg1⟩
    obtain ⟨kd, nm, s, A1, m, cp, rfl⟩ := htv.form
    have hbq := (HBR.out.grown hg1 (fun e => by injection e with e; omega)).alloc (.cells #[.int .i64 kd, .int .i64 nm, .string s, .slice A1 m cp] 35)
    have hbt := Blk.new w1 35 #[.int .i64 kd, .int .i64 nm, .string s, .slice A1 m cp]
    have hbw := only_below HB2.out hg1 (by omega)
    have HBW := Lib.hid (hbw.alloc hbw.size (.cells #[.int .i64 kd, .int .i64 nm, .string s, .slice A1 m cp] 35))
    have hrr := hr1.grown (only_alloc (only_refl w1 none) (.cells #[.int .i64 kd, .int .i64 nm, .string s, .slice A1 m cp] 35)) (fun q e => by cases e)
    have hql := Lib.hid hr1.2.1
    obtain ⟨_, _, _, A2, c2, _, _, hk2, _⟩ := hrr
    have hcq : (w1.alloc (.cells #[.int .i64 kd, .int .i64 nm, .string s, .slice A1 m cp] 35)).cell? ⟨w.heap.size + 1, 1, none⟩ = some (.int .i64 (q : Int)) := hk2.cell 1
    have htw := htv.grown (only_alloc (only_refl w1 none) (.cells #[.int .i64 kd, .int .i64 nm, .string s, .slice A1 m cp] 35)) (fun q e => by cases e)
    have hlow : w.heap.size + 2 ≤ w1.heap.size := by have := hg1.size; rw [HS2.out] at this; exact this
    rw [HS2.out] at htw
    have HTW := Lib.hid htw
    have hgl1 : w.heap.size + 1 < w1.heap.size := by omega
    have hcq1 : w1.cell? ⟨w.heap.size + 1, 1, none⟩ = some (.int .i64 (q : Int)) := by
      obtain ⟨_, _, _, A3, c3, _, _, hk3, _⟩ := hr1
      exact hk3.cell 1
    clear hg1 ct hbw hr1 htv htw
    go_wp2_with (first
      | (refine wpList_store_fresh w1 rfl 35 _ _ rfl _ #[.int .i64 kd, .int .i64 nm, .string s, .slice A1 m cp] _ rfl rfl rfl term_size (ones4 _ _ _ _ _ _) ?_)
      | (refine wpList_load_at rfl 35 _ rfl ⟨w1.heap.size, 0, none⟩ rfl [.int .i64 kd, .int .i64 nm, .string s, .slice A1 m cp] _ (blk_cells hbt) Try.underlying35 rfl term_size ?_)
      | (refine wpList_store_blk rfl 35 _ _ rfl w.heap.size _ #[.int .i64 kd, .int .i64 nm, .string s, .slice A1 m cp] _ rfl rfl hbq rfl term_size (ones4 _ _ _ _ _ _) ?_))
    have hS0 : Blk ((w1.alloc (.cells #[.int .i64 kd, .int .i64 nm, .string s, .slice A1 m cp] 35)).drew) w1.heap.size 35 #[.int .i64 kd, .int .i64 nm, .string s, .slice A1 m cp] ∧ ((w1.alloc (.cells #[.int .i64 kd, .int .i64 nm, .string s, .slice A1 m cp] 35)).drew).cell? ⟨w.heap.size + 1, 1, none⟩ = some (.int .i64 (q : Int)) := ⟨hbt, hcq⟩
    refine wp_region_held_drew (S := fun X => Blk X w1.heap.size 35 #[.int .i64 kd, .int .i64 nm, .string s, .slice A1 m cp] ∧ X.cell? ⟨w.heap.size + 1, 1, none⟩ = some (.int .i64 (q : Int))) (by kernel_rfl) hS0 (fun hHeld => ?_)
    refine wpAnyH_take (i := 0) (v := _) rfl (by kernel_rfl) (by kernel_rfl) (by kernel_rfl) (fun _ _ _ h => h) (yieldsIf_load_term (by rfl) _ rfl ⟨w1.heap.size, 0, none⟩ rfl _ _ _ _ (fun w h => blk_cells h.1)) (by assumption) ?_
    (try simp only [List.getElem_toArray, List.getElem_cons_zero, List.getElem_cons_succ, Act.put, List.setIfInBounds_toArray, List.set_cons_zero, List.set_cons_succ])
    first | (refine wpAnyH_take (i := 1) (v := _) rfl (by kernel_rfl) (by kernel_rfl) (by kernel_rfl) (fun _ _ _ h => h) (Or.inr ⟨?_, rfl⟩) (by assumption) ?_; rfl) | (refine wpAnyH_take (i := 1) (v := ?_) rfl (by kernel_rfl) (by kernel_rfl) (by kernel_rfl) (fun _ _ _ h => h) (Or.inl ⟨?_, ?_⟩) (by assumption) ?_; rotate_left; rfl; focus (intro w hSw; (try dsimp only at hSw); go_simp; all_goals (with_reducible rfl)))
    (try simp only [List.getElem_toArray, List.getElem_cons_zero, List.getElem_cons_succ, Act.put, List.setIfInBounds_toArray, List.set_cons_zero, List.set_cons_succ])
    first | (refine wpAnyH_take (i := 2) (v := _) rfl (by kernel_rfl) (by kernel_rfl) (by kernel_rfl) (fun _ _ _ h => h) (Or.inr ⟨?_, rfl⟩) (by assumption) ?_; rfl) | (refine wpAnyH_take (i := 2) (v := ?_) rfl (by kernel_rfl) (by kernel_rfl) (by kernel_rfl) (fun _ _ _ h => h) (Or.inl ⟨?_, ?_⟩) (by assumption) ?_; rotate_left; rfl; focus (intro w hSw; (try dsimp only at hSw); go_simp; all_goals (with_reducible rfl)))
    (try simp only [List.getElem_toArray, List.getElem_cons_zero, List.getElem_cons_succ, Act.put, List.setIfInBounds_toArray, List.set_cons_zero, List.set_cons_succ])
    first | (refine wpAnyH_take (i := 3) (v := _) rfl (by kernel_rfl) (by kernel_rfl) (by kernel_rfl) (fun _ _ _ h => h) (Or.inr ⟨?_, rfl⟩) (by assumption) ?_; rfl) | (refine wpAnyH_take (i := 3) (v := ?_) rfl (by kernel_rfl) (by kernel_rfl) (by kernel_rfl) (fun _ _ _ h => h) (Or.inl ⟨?_, ?_⟩) (by assumption) ?_; rotate_left; rfl; focus (intro w hSw; (try dsimp only at hSw); go_simp; all_goals (with_reducible rfl)))
    (try simp only [List.getElem_toArray, List.getElem_cons_zero, List.getElem_cons_succ, Act.put, List.setIfInBounds_toArray, List.set_cons_zero, List.set_cons_succ])
    first | (refine wpAnyH_take (i := 4) (v := _) rfl (by kernel_rfl) (by kernel_rfl) (by kernel_rfl) (fun _ _ _ h => h) (Or.inr ⟨?_, rfl⟩) (by assumption) ?_; rfl) | (refine wpAnyH_take (i := 4) (v := ?_) rfl (by kernel_rfl) (by kernel_rfl) (by kernel_rfl) (fun _ _ _ h => h) (Or.inl ⟨?_, ?_⟩) (by assumption) ?_; rotate_left; rfl; focus (intro w hSw; (try dsimp only at hSw); go_simp; all_goals (with_reducible rfl)))
    (try simp only [List.getElem_toArray, List.getElem_cons_zero, List.getElem_cons_succ, Act.put, List.setIfInBounds_toArray, List.set_cons_zero, List.set_cons_succ])
    refine wpAnyH_ready (rs := [5]) (by kernel_rfl) (by simp) ?_
    refine AllReadyH.cons rfl (fun K hK => ?_) AllReadyH.nil
    rw [if_pos (by rfl)]
    have hbq9 := hbq.drew
    refine wp_store_blk 35 _ _ rfl w.heap.size _ #[.int .i64 kd, .int .i64 nm, .string s, .slice A1 m cp] _ rfl rfl hbq9 rfl term_size (ones4 _ _ _ _ _ _) ?_
    have hne : w1.heap.size ≠ w.heap.size := by omega
    have hne2 : w.heap.size + 1 ≠ w.heap.size := by omega
    refine hK.out _ _ ⟨hHeld.1.setOther hne _, ?_⟩ (fun hHeld2 => ?_)
    · have := hk2.drew.setOther hne2 (#[.int .i64 kd, .int .i64 nm, .string s, .slice A1 m cp])
      exact this.cell 1
    clear hK K
    (try simp only [List.getElem_toArray, List.getElem_cons_zero, List.getElem_cons_succ, Act.put, List.setIfInBounds_toArray, List.set_cons_zero, List.set_cons_succ])
    first | (refine wpAnyH_take (i := 6) (v := _) rfl (by kernel_rfl) (by kernel_rfl) (by kernel_rfl) (fun _ _ _ h => h) (Or.inr ⟨?_, rfl⟩) (by assumption) ?_; rfl) | (refine wpAnyH_take (i := 6) (v := ?_) rfl (by kernel_rfl) (by kernel_rfl) (by kernel_rfl) (fun _ _ _ h => h) (Or.inl ⟨?_, ?_⟩) (by assumption) ?_; rotate_left; rfl; focus (intro w hSw; (try dsimp only at hSw); go_simp; all_goals (with_reducible rfl)))
    (try simp only [List.getElem_toArray, List.getElem_cons_zero, List.getElem_cons_succ, Act.put, List.setIfInBounds_toArray, List.set_cons_zero, List.set_cons_succ])
    first | (refine wpAnyH_take (i := 7) (v := _) rfl (by kernel_rfl) (by kernel_rfl) (by kernel_rfl) (fun _ _ _ h => h) (Or.inr ⟨?_, rfl⟩) (by assumption) ?_; rfl) | (refine wpAnyH_take (i := 7) (v := ?_) rfl (by kernel_rfl) (by kernel_rfl) (by kernel_rfl) (fun _ _ _ h => h) (Or.inl ⟨?_, ?_⟩) (by assumption) ?_; rotate_left; rfl; focus (intro w hSw; (try dsimp only at hSw); go_simp; all_goals (with_reducible rfl)))
    (try simp only [List.getElem_toArray, List.getElem_cons_zero, List.getElem_cons_succ, Act.put, List.setIfInBounds_toArray, List.set_cons_zero, List.set_cons_succ])
    refine wpAnyH_done (by kernel_rfl) ?_ _
    go_wp2_with fail
    refine bodyPost_ret (results_c_tt Try.results58 _ _ w.heap.size _ _ _ _ rfl hbq9.setRow) rfl ?_
    rw [hv.out]
    exact ⟨kd, nm, s, A1, m, cp, rfl, ((HTW.out.below (below_drewN (Below.refl _ _) 1)).grown (setRow_only _ w.heap.size _) (fun q e => by injection e with e; omega)).low (Nat.le_add_right _ 2), hql.out, below_setRow (below_drewN HBW.out 1) (Nat.le_refl _) _⟩
end Go.Proofs.Ytekpdkjkkglcjaa
