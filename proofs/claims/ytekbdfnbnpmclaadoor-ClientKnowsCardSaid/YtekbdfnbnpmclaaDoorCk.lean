/- ClientKnows: a client knows just its own redirects, byte for byte. Condition: the table of digits is laid. -/
import Derived.Test.YtekbdfnbnpmclaaDoorCi
import Derived.Test.YtekbdfnbnpmclaaDoorCg
import Derived.Test.YtekbdfnbnpmclaaDoorKb
set_option linter.unusedVariables false
set_option linter.unusedSimpArgs false
set_option maxRecDepth 20000
namespace Go.Proofs.YtekbdfnbnpmclaaDoor
open Go.RowKit Pc
theorem yieldsIf_load_cl {ops : Array Oper} {S : World → Prop} {op : Oper} {a : Act} (hw : Region.wanted op (yielded ops a.tmps) = true) (x : Operand) (ho : op.op = .load 30 x)
    (g : Nat) (hx : a.eval x = .pointer (some ⟨g, 0, none⟩)) (f : Cl) (hS : ∀ w, S w → Blk w g 30 f.arr) : YieldsIf Tryd.prog ops S op (.agg f.arr) a :=
  .inl ⟨hw, fun w hw' => by
    unfold execOp
    simp only [ho, hx, Instr.loadAt, Instr.sureAddr, Sem.run_bind, Sem.run_pure, Result.andThen_ok, run_loadVar_at w ⟨g, 0, none⟩ 30 f.cells _ (blk_cl (hS w hw')) Tryd.underlying30 rfl cl_size]; rfl⟩
theorem tape_at {w : World} {A : Option Addr} {c : Nat} {zs : List Int} (h : IntsIn w A c zs) :
    TapeAt (w.alloc (.cells #[.slice A zs.length c, .int .i64 0] 42)) w.heap.size zs 0 :=
  ⟨Nat.zero_le _, h.2.1, h.2.2.1, A, c, h.1, Blk.new _ _ _, h.2.2.2.alloc (Nat.le_refl _) _⟩
/-- the text that a row of bytes is -/
theorem conv_eq {W : World} {g n c : Nat} {l : List UInt8} (h : BRow 5 W g l) (hn : l.length = n) (hb : n ≤ 1000) : (convert 43 9 (.slice (some ⟨g, 0, none⟩) n c)).run Tryd.prog W = .ok (.string ⟨l.toArray⟩) W := by
  subst hn
  exact reads_str (c := c) h.reads 43 9 5 Tryd.underlying43 Tryd.underlying5 Tryd.underlying9
set_option maxHeartbeats 4000000 in
theorem clientKnows_law (zs : List Int) (A : Option Addr) (c : Nat) (x : ByteArray) (at_ by_ : Int) (w : World) (hr : IntsIn w A c zs) (hat : -9223372036854775808 ≤ at_ ∧ at_ ≤ 9223372036854775807) (hby : 0 ≤ by_ ∧ by_ ≤ 255) (hd : DigOk w) :
    Calls Tryd.prog 5 #[.slice A zs.length c, .string x, .int .i64 at_, .int .u8 by_] w fun e w' => e = .returned (.bool true) ∧ Below w.heap.size w w' := by
  have HD := Lib.hid hd
  have HI := Lib.hid hr
  obtain ⟨yn, rfl⟩ := Int.eq_ofNat_of_zero_le hby.1
  clear hd hr
  go_enter Tryd.func5, Tryd.ntmps5
  go_wp2_with fail
  refine (known17_walk w HD.out).mono ?_
  rintro _ w1 ⟨rfl, hb1⟩
  have HB1 := Lib.hid hb1
  clear hb1
  by_cases hx : x.size ≤ 300
  case neg =>
    have hxd : decide ((300 : Int) < (x.size : Int)) = true := by simp; omega
    go_wp2_with fail
    go_ret
    exact ⟨rfl, HB1.out⟩
  have hxd : decide ((300 : Int) < (x.size : Int)) = false := by simp; omega
  have HT := Lib.hid (tape_at (HI.out.below HB1.out))
  have hb2 := HB1.out.alloc HB1.out.size (.cells #[.slice A zs.length c, .int .i64 0] 42)
  have HB2 := Lib.hid hb2
  clear hb2
  go_wp2_with fail
  refine (client_walk zs w1.heap.size 0 _ HT.out).mono ?_
  rintro _ w3 ⟨f, k3, rfl, hf, hown, ht3, hg3⟩
  obtain ⟨f1, f2, f3, f4, f5⟩ := hf
  have hws := HB1.out.size
  have hb3 := HB2.out.grown hg3 HB2.out.size (fun r e => by injection e with e; omega)
  have hs3 := (StrsAt.own hown)
  obtain ⟨A5, c5, e5, hs3⟩ := hs3
  injection e5 with eA _ ec
  subst eA ec
  have HB := Lib.hid (hb3.alloc hb3.size (.cells f.arr 30))
  have HK := Lib.hid (Blk.new w3 30 f.arr)
  have HS := Lib.hid (hs3.below ((Below.refl _ _).alloc (Nat.le_refl _) (.cells f.arr 30)))
  have hpc := hs3.1
  clear hown ht3 hg3 hb3 hs3 HT HB2 HB1 HI
  go_wp2_with (refine wpList_store_cl w3 rfl _ _ rfl rfl rfl ?_)
  generalize w3.alloc (.cells f.arr 30) = w4 at HB HK HS ⊢
  generalize w3.heap.size = b at HK ⊢
  go_wp2_with fail
  go_loopw [10] (fun iv wr => ∃ i : Nat, i ≤ f.red.length ∧ iv = .int .i64 i ∧ Hid (Below w.heap.size w wr) ∧ Hid (Blk wr b 30 f.arr) ∧ Hid (StrsAt wr f.ra f.rc f.red)) (fun iv _ => f.red.length - (intOf iv).toNat)
  case atStart => exact ⟨0, by omega, rfl, HB, HK, HS⟩
  case round =>
    clear HB HK HS
    obtain ⟨i, hi, rfl, HB, HK, HS⟩ := hrel
    have hc2 := (boxC HK.out).2.2.1
    have hbl := HK.out.lt
    by_cases hlt : i < f.red.length
    case neg =>
      obtain rfl : i = f.red.length := by omega
      go_wp2_with fail
      go_ret
      exact ⟨rfl, HB.out⟩
    obtain ⟨p, hpk⟩ : ∃ p, f.red[i]? = some p := ⟨_, List.getElem?_eq_getElem hlt⟩
    obtain ⟨hp1, hp2⟩ := f5 p (List.mem_of_getElem? hpk)
    obtain ⟨ad, hA, hcell⟩ := HS.out.get hpk
    rw [hA] at hc2
    have hal : ad.block < wr.heap.size := by obtain ⟨ad2, e2, h2, _⟩ := HS.out.2.2 (by omega); rw [hA] at e2; injection e2 with e2; subst e2; exact h2
    have HP := Lib.hid hpk
    obtain ⟨k, hk, ek⟩ : ∃ k : Nat, k < p.length ∧ at_ % (p.length : Int) = k := ⟨(at_ % (p.length : Int)).toNat, by have := Int.emod_nonneg at_ (show (p.length : Int) ≠ 0 by omega); have := Int.emod_lt_of_pos at_ (show (0 : Int) < (p.length : Int) by omega); omega, by have := Int.emod_nonneg at_ (show (p.length : Int) ≠ 0 by omega); omega⟩
    have cw := Lib.hid (fun W => within17_walk at_ (p.length : Int) W (by omega) (by omega) hat)
    rw [ek] at cw
    obtain ⟨y, hy⟩ : ∃ y : Nat, (p.getD k 0).toNat = y := ⟨_, rfl⟩
    have hy2 : y < 256 := by rw [← hy]; exact (p.getD k 0).toNat_lt
    obtain ⟨z, hz, hzl⟩ : ∃ z : Nat, bits .xor .u8 (y : Int) (yn : Int) = (z : Int) ∧ z < 256 := ⟨_, u8_xor_nat y yn hy2 (by omega), Nat.xor_lt_two_pow (n := 8) hy2 (by omega)⟩
    have hcv := fun w => Lib.run_convert_string_bytes (P := Tryd.prog) w 9 43 5 ⟨p.toArray⟩ Tryd.underlying9 Tryd.underlying43 Tryd.underlying5
    have hbr := BRow.new 5 wr p
    have hbb := below_bytes 5 wr p
    have hbrs := hbr.set_ hk z hzl
    have hkc := hbr.cell hk
    have hkf := hbr.frozen hk
    rw [hy] at hkc
    have hnew : wr.heap.size < (Lib.bytesWorld wr 5 ⟨p.toArray⟩).heap.size := hbr.lt
    have hb5 : Below wr.heap.size wr ((Lib.bytesWorld wr 5 ⟨p.toArray⟩).setCell ⟨wr.heap.size, k, none⟩ (.int .u8 (z : Int))) := hbb.setCell (by show wr.heap.size ≤ wr.heap.size; omega) _
    clear ek hy hpk
    go_wp2_with fail
    refine (cw.out _).mono ?_
    rintro _ w6 ⟨rfl, rfl⟩
    go_wp2_with fail
    generalize (Lib.bytesWorld wr 5 ⟨p.toArray⟩).setCell ⟨wr.heap.size, k, none⟩ (.int .u8 (z : Int)) = w5 at hb5 hbrs ⊢
    generalize grownCap wr p.length 0 5 = cp
    generalize hg : wr.heap.size = g at hbrs ⊢
    have hpl : (p.set k (UInt8.ofNat z)).length = p.length := by rw [List.length_set]
    generalize p.set k (UInt8.ofNat z) = p' at hbrs hpl
    have HB5 := Lib.hid (below_next HB.out hb5)
    have HK5 := Lib.hid (HK.out.below hb5 HK.out.lt)
    have HS5 := Lib.hid (HS.out.below hb5)
    have hc2' := (boxC HK5.out).2.2.1
    rw [hA] at hc2'
    have hcell' := (hb5.cell (p := ad.add i) (by rw [block_of_add]; exact hal)).trans hcell
    have hal5 : (ad.add i).block < w5.heap.size := by rw [block_of_add]; have := hb5.size; omega
    have hb5l := HK5.out.lt
    have hSall : ∀ W, Below w5.heap.size w5 W → W.cell? ⟨b, 2, none⟩ = some (.slice (some ad) f.red.length f.rc) ∧ W.cell? (ad.add i) = some (.string ⟨p.toArray⟩) ∧ (convert 43 9 (.slice (some ⟨g, 0, none⟩) p.length cp)).run Tryd.prog W = .ok (.string ⟨p'.toArray⟩) W := fun W h => ⟨(h.cell (p := ⟨b, 2, none⟩) hb5l).trans hc2', (h.cell hal5).trans hcell', conv_eq (hbrs.below h hbrs.lt) hpl (by omega)⟩
    have HSA := Lib.hid hSall
    have hadd := fun w => run_string_add_sum (P := Tryd.prog) w ⟨p.toArray⟩ x (by rw [size_mks]; omega)
    clear hSall hc2' hcell' hal5 hbrs hb5 hkc hkf hbr hbb hcv hc2 hcell hnew cw hbl
    refine wp_region_held_drew (S := fun W => W.cell? ⟨b, 2, none⟩ = some (.slice (some ad) f.red.length f.rc) ∧ W.cell? (ad.add i) = some (.string ⟨p.toArray⟩) ∧ (convert 43 9 (.slice (some ⟨g, 0, none⟩) p.length cp)).run Tryd.prog W = .ok (.string ⟨p'.toArray⟩) W) (by kernel_rfl) (HSA.out _ (below_drewN (Below.refl _ _) 1)) (fun hHeld => ?_)
    first | (refine wpAnyH_take (i := 0) (v := _) rfl (by kernel_rfl) (by kernel_rfl) (by kernel_rfl) (fun _ _ _ h => h) (Or.inr ⟨?_, rfl⟩) (by assumption) ?_; rfl) | (refine wpAnyH_take (i := 0) (v := ?_) rfl (by kernel_rfl) (by kernel_rfl) (by kernel_rfl) (fun _ _ _ h => h) (Or.inl ⟨?_, ?_⟩) (by assumption) ?_; rotate_left; rfl; focus (intro w hSw; (try dsimp only at hSw); go_simp; all_goals (with_reducible rfl)))
    (try simp only [List.getElem_toArray, List.getElem_cons_zero, List.getElem_cons_succ, Act.put, List.setIfInBounds_toArray, List.set_cons_zero, List.set_cons_succ])
    first | (refine wpAnyH_take (i := 1) (v := _) rfl (by kernel_rfl) (by kernel_rfl) (by kernel_rfl) (fun _ _ _ h => h) (Or.inr ⟨?_, rfl⟩) (by assumption) ?_; rfl) | (refine wpAnyH_take (i := 1) (v := ?_) rfl (by kernel_rfl) (by kernel_rfl) (by kernel_rfl) (fun _ _ _ h => h) (Or.inl ⟨?_, ?_⟩) (by assumption) ?_; rotate_left; rfl; focus (intro w hSw; (try dsimp only at hSw); go_simp; all_goals (with_reducible rfl)))
    (try simp only [List.getElem_toArray, List.getElem_cons_zero, List.getElem_cons_succ, Act.put, List.setIfInBounds_toArray, List.set_cons_zero, List.set_cons_succ])
    first | (refine wpAnyH_take (i := 2) (v := _) rfl (by kernel_rfl) (by kernel_rfl) (by kernel_rfl) (fun _ _ _ h => h) (Or.inr ⟨?_, rfl⟩) (by assumption) ?_; rfl) | (refine wpAnyH_take (i := 2) (v := ?_) rfl (by kernel_rfl) (by kernel_rfl) (by kernel_rfl) (fun _ _ _ h => h) (Or.inl ⟨?_, ?_⟩) (by assumption) ?_; rotate_left; rfl; focus (intro w hSw; (try dsimp only at hSw); go_simp; all_goals (with_reducible rfl)))
    (try simp only [List.getElem_toArray, List.getElem_cons_zero, List.getElem_cons_succ, Act.put, List.setIfInBounds_toArray, List.set_cons_zero, List.set_cons_succ])
    first | (refine wpAnyH_take (i := 3) (v := _) rfl (by kernel_rfl) (by kernel_rfl) (by kernel_rfl) (fun _ _ _ h => h) (Or.inr ⟨?_, rfl⟩) (by assumption) ?_; rfl) | (refine wpAnyH_take (i := 3) (v := ?_) rfl (by kernel_rfl) (by kernel_rfl) (by kernel_rfl) (fun _ _ _ h => h) (Or.inl ⟨?_, ?_⟩) (by assumption) ?_; rotate_left; rfl; focus (intro w hSw; (try dsimp only at hSw); go_simp; all_goals (with_reducible rfl)))
    (try simp only [List.getElem_toArray, List.getElem_cons_zero, List.getElem_cons_succ, Act.put, List.setIfInBounds_toArray, List.set_cons_zero, List.set_cons_succ])
    first | (refine wpAnyH_take (i := 4) (v := _) rfl (by kernel_rfl) (by kernel_rfl) (by kernel_rfl) (fun _ _ _ h => h) (Or.inr ⟨?_, rfl⟩) (by assumption) ?_; rfl) | (refine wpAnyH_take (i := 4) (v := ?_) rfl (by kernel_rfl) (by kernel_rfl) (by kernel_rfl) (fun _ _ _ h => h) (Or.inl ⟨?_, ?_⟩) (by assumption) ?_; rotate_left; rfl; focus (intro w hSw; (try dsimp only at hSw); go_simp; all_goals (with_reducible rfl)))
    (try simp only [List.getElem_toArray, List.getElem_cons_zero, List.getElem_cons_succ, Act.put, List.setIfInBounds_toArray, List.set_cons_zero, List.set_cons_succ])
    first | (refine wpAnyH_take (i := 5) (v := _) rfl (by kernel_rfl) (by kernel_rfl) (by kernel_rfl) (fun _ _ _ h => h) (Or.inr ⟨?_, rfl⟩) (by assumption) ?_; rfl) | (refine wpAnyH_take (i := 5) (v := ?_) rfl (by kernel_rfl) (by kernel_rfl) (by kernel_rfl) (fun _ _ _ h => h) (Or.inl ⟨?_, ?_⟩) (by assumption) ?_; rotate_left; rfl; focus (intro w hSw; (try dsimp only at hSw); go_simp; all_goals (with_reducible rfl)))
    (try simp only [List.getElem_toArray, List.getElem_cons_zero, List.getElem_cons_succ, Act.put, List.setIfInBounds_toArray, List.set_cons_zero, List.set_cons_succ])
    first | (refine wpAnyH_take (i := 6) (v := _) rfl (by kernel_rfl) (by kernel_rfl) (by kernel_rfl) (fun _ _ _ h => h) (Or.inr ⟨?_, rfl⟩) (by assumption) ?_; rfl) | (refine wpAnyH_take (i := 6) (v := ?_) rfl (by kernel_rfl) (by kernel_rfl) (by kernel_rfl) (fun _ _ _ h => h) (Or.inl ⟨?_, ?_⟩) (by assumption) ?_; rotate_left; rfl; focus (intro w hSw; (try dsimp only at hSw); go_simp; all_goals (with_reducible rfl)))
    (try simp only [List.getElem_toArray, List.getElem_cons_zero, List.getElem_cons_succ, Act.put, List.setIfInBounds_toArray, List.set_cons_zero, List.set_cons_succ])
    first | (refine wpAnyH_take (i := 7) (v := _) rfl (by kernel_rfl) (by kernel_rfl) (by kernel_rfl) (fun _ _ _ h => h) (Or.inr ⟨?_, rfl⟩) (by assumption) ?_; rfl) | (refine wpAnyH_take (i := 7) (v := ?_) rfl (by kernel_rfl) (by kernel_rfl) (by kernel_rfl) (fun _ _ _ h => h) (Or.inl ⟨?_, ?_⟩) (by assumption) ?_; rotate_left; rfl; focus (intro w hSw; (try dsimp only at hSw); go_simp; all_goals (with_reducible rfl)))
    (try simp only [List.getElem_toArray, List.getElem_cons_zero, List.getElem_cons_succ, Act.put, List.setIfInBounds_toArray, List.set_cons_zero, List.set_cons_succ])
    first | (refine wpAnyH_take (i := 8) (v := _) rfl (by kernel_rfl) (by kernel_rfl) (by kernel_rfl) (fun _ _ _ h => h) (Or.inr ⟨?_, rfl⟩) (by assumption) ?_; rfl) | (refine wpAnyH_take (i := 8) (v := ?_) rfl (by kernel_rfl) (by kernel_rfl) (by kernel_rfl) (fun _ _ _ h => h) (Or.inl ⟨?_, ?_⟩) (by assumption) ?_; rotate_left; rfl; focus (intro w hSw; (try dsimp only at hSw); go_simp; all_goals (with_reducible rfl)))
    (try simp only [List.getElem_toArray, List.getElem_cons_zero, List.getElem_cons_succ, Act.put, List.setIfInBounds_toArray, List.set_cons_zero, List.set_cons_succ])
    first | (refine wpAnyH_take (i := 9) (v := _) rfl (by kernel_rfl) (by kernel_rfl) (by kernel_rfl) (fun _ _ _ h => h) (Or.inr ⟨?_, rfl⟩) (by assumption) ?_; rfl) | (refine wpAnyH_take (i := 9) (v := ?_) rfl (by kernel_rfl) (by kernel_rfl) (by kernel_rfl) (fun _ _ _ h => h) (Or.inl ⟨?_, ?_⟩) (by assumption) ?_; rotate_left; rfl; focus (intro w hSw; (try dsimp only at hSw); go_simp; all_goals (with_reducible rfl)))
    (try simp only [List.getElem_toArray, List.getElem_cons_zero, List.getElem_cons_succ, Act.put, List.setIfInBounds_toArray, List.set_cons_zero, List.set_cons_succ])
    first | (refine wpAnyH_take (i := 10) (v := _) rfl (by kernel_rfl) (by kernel_rfl) (by kernel_rfl) (fun _ _ _ h => h) (Or.inr ⟨?_, rfl⟩) (by assumption) ?_; rfl) | (refine wpAnyH_take (i := 10) (v := ?_) rfl (by kernel_rfl) (by kernel_rfl) (by kernel_rfl) (fun _ _ _ h => h) (Or.inl ⟨?_, ?_⟩) (by assumption) ?_; rotate_left; rfl; focus (intro w hSw; (try dsimp only at hSw); go_simp; all_goals (with_reducible rfl)))
    (try simp only [List.getElem_toArray, List.getElem_cons_zero, List.getElem_cons_succ, Act.put, List.setIfInBounds_toArray, List.set_cons_zero, List.set_cons_succ])
    first | (refine wpAnyH_take (i := 11) (v := _) rfl (by kernel_rfl) (by kernel_rfl) (by kernel_rfl) (fun _ _ _ h => h) (Or.inr ⟨?_, rfl⟩) (by assumption) ?_; rfl) | (refine wpAnyH_take (i := 11) (v := ?_) rfl (by kernel_rfl) (by kernel_rfl) (by kernel_rfl) (fun _ _ _ h => h) (Or.inl ⟨?_, ?_⟩) (by assumption) ?_; rotate_left; rfl; focus (intro w hSw; (try dsimp only at hSw); go_simp; all_goals (with_reducible rfl)))
    (try simp only [List.getElem_toArray, List.getElem_cons_zero, List.getElem_cons_succ, Act.put, List.setIfInBounds_toArray, List.set_cons_zero, List.set_cons_succ])
    first | (refine wpAnyH_take (i := 12) (v := _) rfl (by kernel_rfl) (by kernel_rfl) (by kernel_rfl) (fun _ _ _ h => h) (Or.inr ⟨?_, rfl⟩) (by assumption) ?_; rfl) | (refine wpAnyH_take (i := 12) (v := ?_) rfl (by kernel_rfl) (by kernel_rfl) (by kernel_rfl) (fun _ _ _ h => h) (Or.inl ⟨?_, ?_⟩) (by assumption) ?_; rotate_left; rfl; focus (intro w hSw; (try dsimp only at hSw); go_simp; all_goals (with_reducible rfl)))
    (try simp only [List.getElem_toArray, List.getElem_cons_zero, List.getElem_cons_succ, Act.put, List.setIfInBounds_toArray, List.set_cons_zero, List.set_cons_succ])
    first | (refine wpAnyH_take (i := 13) (v := _) rfl (by kernel_rfl) (by kernel_rfl) (by kernel_rfl) (fun _ _ _ h => h) (Or.inr ⟨?_, rfl⟩) (by assumption) ?_; rfl) | (refine wpAnyH_take (i := 13) (v := ?_) rfl (by kernel_rfl) (by kernel_rfl) (by kernel_rfl) (fun _ _ _ h => h) (Or.inl ⟨?_, ?_⟩) (by assumption) ?_; rotate_left; rfl; focus (intro w hSw; (try dsimp only at hSw); go_simp; all_goals (with_reducible rfl)))
    (try simp only [List.getElem_toArray, List.getElem_cons_zero, List.getElem_cons_succ, Act.put, List.setIfInBounds_toArray, List.set_cons_zero, List.set_cons_succ])
    first | (refine wpAnyH_take (i := 14) (v := _) rfl (by kernel_rfl) (by kernel_rfl) (by kernel_rfl) (fun _ _ _ h => h) (Or.inr ⟨?_, rfl⟩) (by assumption) ?_; rfl) | (refine wpAnyH_take (i := 14) (v := ?_) rfl (by kernel_rfl) (by kernel_rfl) (by kernel_rfl) (fun _ _ _ h => h) (Or.inl ⟨?_, ?_⟩) (by assumption) ?_; rotate_left; rfl; focus (intro w hSw; (try dsimp only at hSw); go_simp; all_goals (with_reducible rfl)))
    (try simp only [List.getElem_toArray, List.getElem_cons_zero, List.getElem_cons_succ, Act.put, List.setIfInBounds_toArray, List.set_cons_zero, List.set_cons_succ])
    refine wpAnyH_ready (rs := [15]) (by kernel_rfl) (by simp) ?_
    refine AllReadyH.cons rfl (fun K hK => ?_) AllReadyH.nil
    go_simp
    refine hK.out _ _ (HSA.out _ ((below_drewN (Below.refl _ _) 1).alloc (Nat.le_refl _) _)) (fun hHeld => ?_)
    clear hK K
    (try simp only [List.getElem_toArray, List.getElem_cons_zero, List.getElem_cons_succ, Act.put, List.setIfInBounds_toArray, List.set_cons_zero, List.set_cons_succ])
    first | (refine wpAnyH_take (i := 16) (v := _) rfl (by kernel_rfl) (by kernel_rfl) (by kernel_rfl) (fun _ _ _ h => h) (Or.inr ⟨?_, rfl⟩) (by assumption) ?_; rfl) | (refine wpAnyH_take (i := 16) (v := ?_) rfl (by kernel_rfl) (by kernel_rfl) (by kernel_rfl) (fun _ _ _ h => h) (Or.inl ⟨?_, ?_⟩) (by assumption) ?_; rotate_left; rfl; focus (intro w hSw; (try dsimp only at hSw); go_simp; all_goals (with_reducible rfl)))
    (try simp only [List.getElem_toArray, List.getElem_cons_zero, List.getElem_cons_succ, Act.put, List.setIfInBounds_toArray, List.set_cons_zero, List.set_cons_succ])
    refine wpAnyH_done (by kernel_rfl) ?_ _
    clear hHeld
    obtain ⟨L, hL⟩ : ∃ L : List ByteArray, L = [⟨p.toArray⟩, ⟨p'.toArray⟩, ⟨p.toArray⟩ ++ x, x] := ⟨_, rfl⟩
    have hL4 : L.length = 4 := by rw [hL]; rfl
    have hrow : Blk (w5.alloc (.cells #[.string ⟨p.toArray⟩, .string ⟨p'.toArray⟩, .string (⟨p.toArray⟩ ++ x), .string x] 9)).drew w5.heap.size 9 (L.map Value.string).toArray := by rw [hL]; exact (Blk.new w5 9 _).drew
    have hb6 := HB5.out.alloc HB5.out.size (.cells #[.string ⟨p.toArray⟩, .string ⟨p'.toArray⟩, .string (⟨p.toArray⟩ ++ x), .string x] 9)
    have hb56 : Below w5.heap.size w5 (w5.alloc (.cells #[.string ⟨p.toArray⟩, .string ⟨p'.toArray⟩, .string (⟨p.toArray⟩ ++ x), .string x] 9)).drew := ((Below.refl w5.heap.size w5).alloc (Nat.le_refl _) _).drew
    have HB6 := Lib.hid hb6.drew
    have HK6 := Lib.hid (HK5.out.below hb56 HK5.out.lt)
    have HS6 := Lib.hid (HS5.out.below hb56)
    have HR6 := Lib.hid hrow
    clear hrow hb6 hb56 HB5 HK5 HS5 HSA hadd HB HK HS hL hpl
    generalize (w5.alloc (.cells #[.string ⟨p.toArray⟩, .string ⟨p'.toArray⟩, .string (⟨p.toArray⟩ ++ x), .string x] 9)).drew = w6 at HB6 HK6 HS6 HR6 ⊢
    generalize w5.heap.size = g4 at HR6 hb5l ⊢
    clear hb5l
    go_wp2_with fail
    go_loopw [13] (fun jv wv => ∃ j : Nat, j ≤ 4 ∧ jv = .int .i64 j ∧ Hid (Below w.heap.size w wv) ∧ Hid (Blk wv b 30 f.arr) ∧ Hid (StrsAt wv f.ra f.rc f.red) ∧ Hid (Blk wv g4 9 (L.map Value.string).toArray)) (fun jv _ => 4 - (intOf jv).toNat)
    case atStart => exact ⟨0, by omega, rfl, HB6, HK6, HS6, HR6⟩
    case round =>
      clear HB6 HK6 HS6 HR6
      obtain ⟨j, hj, rfl, HB, HK, HS, HR⟩ := hrel
      by_cases hlt4 : j < 4
      case neg =>
        obtain rfl : j = 4 := by omega
        go_wp2_with fail
        exact ⟨⟨i + 1, by omega, by go_num, HB, HK, HS⟩, by simp [intOf]; omega⟩
      obtain ⟨y8, hy8⟩ : ∃ y, L[j]? = some y := ⟨_, List.getElem?_eq_getElem (by omega)⟩
      obtain ⟨yl, rfl⟩ := str_of y8
      have hcy : wr.cell? ⟨g4, j, none⟩ = some (.string ⟨yl.toArray⟩) := by rw [HR.out.cell j]; simp [hy8]
      have ck1 := Lib.hid (fun W h => knows_walk f yl W h (by omega))
      have ck2 := Lib.hid (fun W h => rknows_walk f yl W h (by omega))
      generalize f.red.contains yl = q at ck1 ck2
      clear hy8
      cases q
      all_goals
        go_wp2_with fail
        refine wp_region_held_drew (S := fun W => Blk W b 30 f.arr ∧ W.cell? ⟨g4, j, none⟩ = some (.string ⟨yl.toArray⟩)) (by kernel_rfl) ⟨HK.out.drew, hcy⟩ (fun hHeld => ?_)
        refine wpAnyH_take (i := 0) (v := _) rfl (by kernel_rfl) (by kernel_rfl) (by kernel_rfl) (fun _ _ _ h => h) (yieldsIf_load_cl (by rfl) _ rfl b rfl f (fun w h => h.1)) (by assumption) ?_
        (try simp only [List.getElem_toArray, List.getElem_cons_zero, List.getElem_cons_succ, Act.put, List.setIfInBounds_toArray, List.set_cons_zero, List.set_cons_succ])
        refine wpAnyH_take (i := 6) (v := _) rfl (by kernel_rfl) (by kernel_rfl) (by kernel_rfl) (fun _ _ _ h => h) (yieldsIf_load_cl (by rfl) _ rfl b rfl f (fun w h => h.1)) (by assumption) ?_
        (try simp only [List.getElem_toArray, List.getElem_cons_zero, List.getElem_cons_succ, Act.put, List.setIfInBounds_toArray, List.set_cons_zero, List.set_cons_succ])
        first | (refine wpAnyH_take (i := 1) (v := _) rfl (by kernel_rfl) (by kernel_rfl) (by kernel_rfl) (fun _ _ _ h => h) (Or.inr ⟨?_, rfl⟩) (by assumption) ?_; rfl) | (refine wpAnyH_take (i := 1) (v := ?_) rfl (by kernel_rfl) (by kernel_rfl) (by kernel_rfl) (fun _ _ _ h => h) (Or.inl ⟨?_, ?_⟩) (by assumption) ?_; rotate_left; rfl; focus (intro w hSw; (try dsimp only at hSw); go_simp; all_goals (with_reducible rfl)))
        (try simp only [List.getElem_toArray, List.getElem_cons_zero, List.getElem_cons_succ, Act.put, List.setIfInBounds_toArray, List.set_cons_zero, List.set_cons_succ])
        first | (refine wpAnyH_take (i := 2) (v := _) rfl (by kernel_rfl) (by kernel_rfl) (by kernel_rfl) (fun _ _ _ h => h) (Or.inr ⟨?_, rfl⟩) (by assumption) ?_; rfl) | (refine wpAnyH_take (i := 2) (v := ?_) rfl (by kernel_rfl) (by kernel_rfl) (by kernel_rfl) (fun _ _ _ h => h) (Or.inl ⟨?_, ?_⟩) (by assumption) ?_; rotate_left; rfl; focus (intro w hSw; (try dsimp only at hSw); go_simp; all_goals (with_reducible rfl)))
        (try simp only [List.getElem_toArray, List.getElem_cons_zero, List.getElem_cons_succ, Act.put, List.setIfInBounds_toArray, List.set_cons_zero, List.set_cons_succ])
        first | (refine wpAnyH_take (i := 3) (v := _) rfl (by kernel_rfl) (by kernel_rfl) (by kernel_rfl) (fun _ _ _ h => h) (Or.inr ⟨?_, rfl⟩) (by assumption) ?_; rfl) | (refine wpAnyH_take (i := 3) (v := ?_) rfl (by kernel_rfl) (by kernel_rfl) (by kernel_rfl) (fun _ _ _ h => h) (Or.inl ⟨?_, ?_⟩) (by assumption) ?_; rotate_left; rfl; focus (intro w hSw; (try dsimp only at hSw); go_simp; all_goals (with_reducible rfl)))
        (try simp only [List.getElem_toArray, List.getElem_cons_zero, List.getElem_cons_succ, Act.put, List.setIfInBounds_toArray, List.set_cons_zero, List.set_cons_succ])
        first | (refine wpAnyH_take (i := 4) (v := _) rfl (by kernel_rfl) (by kernel_rfl) (by kernel_rfl) (fun _ _ _ h => h) (Or.inr ⟨?_, rfl⟩) (by assumption) ?_; rfl) | (refine wpAnyH_take (i := 4) (v := ?_) rfl (by kernel_rfl) (by kernel_rfl) (by kernel_rfl) (fun _ _ _ h => h) (Or.inl ⟨?_, ?_⟩) (by assumption) ?_; rotate_left; rfl; focus (intro w hSw; (try dsimp only at hSw); go_simp; all_goals (with_reducible rfl)))
        (try simp only [List.getElem_toArray, List.getElem_cons_zero, List.getElem_cons_succ, Act.put, List.setIfInBounds_toArray, List.set_cons_zero, List.set_cons_succ])
        first | (refine wpAnyH_take (i := 7) (v := _) rfl (by kernel_rfl) (by kernel_rfl) (by kernel_rfl) (fun _ _ _ h => h) (Or.inr ⟨?_, rfl⟩) (by assumption) ?_; rfl) | (refine wpAnyH_take (i := 7) (v := ?_) rfl (by kernel_rfl) (by kernel_rfl) (by kernel_rfl) (fun _ _ _ h => h) (Or.inl ⟨?_, ?_⟩) (by assumption) ?_; rotate_left; rfl; focus (intro w hSw; (try dsimp only at hSw); go_simp; all_goals (with_reducible rfl)))
        (try simp only [List.getElem_toArray, List.getElem_cons_zero, List.getElem_cons_succ, Act.put, List.setIfInBounds_toArray, List.set_cons_zero, List.set_cons_succ])
        first | (refine wpAnyH_take (i := 8) (v := _) rfl (by kernel_rfl) (by kernel_rfl) (by kernel_rfl) (fun _ _ _ h => h) (Or.inr ⟨?_, rfl⟩) (by assumption) ?_; rfl) | (refine wpAnyH_take (i := 8) (v := ?_) rfl (by kernel_rfl) (by kernel_rfl) (by kernel_rfl) (fun _ _ _ h => h) (Or.inl ⟨?_, ?_⟩) (by assumption) ?_; rotate_left; rfl; focus (intro w hSw; (try dsimp only at hSw); go_simp; all_goals (with_reducible rfl)))
        (try simp only [List.getElem_toArray, List.getElem_cons_zero, List.getElem_cons_succ, Act.put, List.setIfInBounds_toArray, List.set_cons_zero, List.set_cons_succ])
        first | (refine wpAnyH_take (i := 9) (v := _) rfl (by kernel_rfl) (by kernel_rfl) (by kernel_rfl) (fun _ _ _ h => h) (Or.inr ⟨?_, rfl⟩) (by assumption) ?_; rfl) | (refine wpAnyH_take (i := 9) (v := ?_) rfl (by kernel_rfl) (by kernel_rfl) (by kernel_rfl) (fun _ _ _ h => h) (Or.inl ⟨?_, ?_⟩) (by assumption) ?_; rotate_left; rfl; focus (intro w hSw; (try dsimp only at hSw); go_simp; all_goals (with_reducible rfl)))
        (try simp only [List.getElem_toArray, List.getElem_cons_zero, List.getElem_cons_succ, Act.put, List.setIfInBounds_toArray, List.set_cons_zero, List.set_cons_succ])
        first | (refine wpAnyH_take (i := 10) (v := _) rfl (by kernel_rfl) (by kernel_rfl) (by kernel_rfl) (fun _ _ _ h => h) (Or.inr ⟨?_, rfl⟩) (by assumption) ?_; rfl) | (refine wpAnyH_take (i := 10) (v := ?_) rfl (by kernel_rfl) (by kernel_rfl) (by kernel_rfl) (fun _ _ _ h => h) (Or.inl ⟨?_, ?_⟩) (by assumption) ?_; rotate_left; rfl; focus (intro w hSw; (try dsimp only at hSw); go_simp; all_goals (with_reducible rfl)))
        (try simp only [List.getElem_toArray, List.getElem_cons_zero, List.getElem_cons_succ, Act.put, List.setIfInBounds_toArray, List.set_cons_zero, List.set_cons_succ])
        refine wpAnyH_ready (rs := [5]) (by kernel_rfl) (by simp) ?_
        refine AllReadyH.cons rfl (fun K hK => ?_) AllReadyH.nil
        go_simp
        go_at_call 16
        have cq1 := ck1.out wr.drew (show StrsAt wr.drew f.ra f.rc f.red from HS.out.drewN 1)
        with_reducible refine cq1.mono ?_
        rintro _ w8 ⟨rfl, hbn⟩
        have HB8 := Lib.hid (below_next (w1 := wr.drew) (below_drewN HB.out 1) hbn)
        have HK8 := Lib.hid (Blk.below (w := wr.drew) HK.out.drew hbn HK.out.drew.lt)
        have HS8 := Lib.hid (StrsAt.below (w := wr.drew) (show StrsAt wr.drew f.ra f.rc f.red from HS.out.drewN 1) hbn)
        have HR8 := Lib.hid (Blk.below (w := wr.drew) HR.out.drew hbn HR.out.drew.lt)
        have hcy8 : w8.cell? ⟨g4, j, none⟩ = some (.string ⟨yl.toArray⟩) := (hbn.cell (p := ⟨g4, j, none⟩) HR.out.drew.lt).trans hcy
        refine hK.out _ _ ⟨HK8.out, hcy8⟩ (fun hHeld => ?_)
        clear hK K hbn
        (try simp only [List.getElem_toArray, List.getElem_cons_zero, List.getElem_cons_succ, Act.put, List.setIfInBounds_toArray, List.set_cons_zero, List.set_cons_succ])
        refine wpAnyH_ready (rs := [11]) (by kernel_rfl) (by simp) ?_
        refine AllReadyH.cons rfl (fun K hK => ?_) AllReadyH.nil
        go_simp
        go_at_call 17
        with_reducible refine (ck2.out w8 HS8.out).mono ?_
        rintro _ w9 ⟨rfl, hbn⟩
        have HB9 := Lib.hid (below_next HB8.out hbn)
        have HK9 := Lib.hid (HK8.out.below hbn HK8.out.lt)
        have HS9 := Lib.hid (HS8.out.below hbn)
        have HR9 := Lib.hid (HR8.out.below hbn HR8.out.lt)
        have hcy9 : w9.cell? ⟨g4, j, none⟩ = some (.string ⟨yl.toArray⟩) := (hbn.cell (p := ⟨g4, j, none⟩) HR8.out.lt).trans hcy8
        refine hK.out _ _ ⟨HK9.out, hcy9⟩ (fun hHeld => ?_)
        clear hK K hbn
        (try simp only [List.getElem_toArray, List.getElem_cons_zero, List.getElem_cons_succ, Act.put, List.setIfInBounds_toArray, List.set_cons_zero, List.set_cons_succ])
        first | (refine wpAnyH_take (i := 12) (v := _) rfl (by kernel_rfl) (by kernel_rfl) (by kernel_rfl) (fun _ _ _ h => h) (Or.inr ⟨?_, rfl⟩) (by assumption) ?_; rfl) | (refine wpAnyH_take (i := 12) (v := ?_) rfl (by kernel_rfl) (by kernel_rfl) (by kernel_rfl) (fun _ _ _ h => h) (Or.inl ⟨?_, ?_⟩) (by assumption) ?_; rotate_left; rfl; focus (intro w hSw; (try dsimp only at hSw); go_simp; all_goals (with_reducible rfl)))
        (try simp only [List.getElem_toArray, List.getElem_cons_zero, List.getElem_cons_succ, Act.put, List.setIfInBounds_toArray, List.set_cons_zero, List.set_cons_succ])
        refine wpAnyH_done (by kernel_rfl) ?_ _
        clear hHeld hcy hcy8 hcy9 HB HK HS HR HB8 HK8 HS8 HR8
        go_wp2_with fail
        exact ⟨⟨j + 1, by omega, by go_num, HB9, HK9, HS9, HR9⟩, by simp [intOf]; omega⟩
end Go.Proofs.YtekbdfnbnpmclaaDoor
