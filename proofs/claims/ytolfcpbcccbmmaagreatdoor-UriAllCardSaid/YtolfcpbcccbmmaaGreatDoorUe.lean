/- uri.target and countersignref11.target, walked to targetL. Condition of the first: the table of digits is laid. -/
import Derived.Test.YtolfcpbcccbmmaaGreatDoorUd
set_option linter.unusedVariables false
set_option linter.unusedSimpArgs false
set_option maxRecDepth 20000
namespace Go.Proofs.YtolfcpbcccbmmaaGreatDoor
open Go.RowKit Pc
def Ur.arr (u : Ur) (A : Option Addr) (c : Nat) : Array Value := #[.string ⟨u.h.toArray⟩, .string ⟨u.p.toArray⟩, .slice A u.q.length c]
/-- an address that is not long, its query in memory -/
def UrAt (w : World) (A : Option Addr) (c : Nat) (u : Ur) : Prop := FsAt w A c u.q ∧ u.h.length ≤ 10000 ∧ u.p.length ≤ 10000 ∧ sumF u.q ≤ 10000
theorem UrAt.below {w w' : World} {A : Option Addr} {c : Nat} {u : Ur} (h : UrAt w A c u) (hb : Below w.heap.size w w') : UrAt w' A c u := ⟨h.1.below hb, h.2⟩
theorem UrAt.drewN {w : World} {A : Option Addr} {c : Nat} {u : Ur} (h : UrAt w A c u) (q : Nat) : UrAt (w.drewN q) A c u := h
theorem UrAt.fs {w : World} {A : Option Addr} {c : Nat} {u : Ur} (h : UrAt w A c u) : FsAt w A c u.q := h.1
theorem boxU {g : Nat} {u : Ur} {A : Option Addr} {c : Nat} {W : World} (h : Blk W g 28 (u.arr A c)) :
    Blk W g 28 (u.arr A c) ∧ W.cell? ⟨g, 0, none⟩ = some (.string ⟨u.h.toArray⟩) ∧ W.cell? ⟨g, 1, none⟩ = some (.string ⟨u.p.toArray⟩) ∧ W.cell? ⟨g, 2, none⟩ = some (.slice A u.q.length c) := ⟨h, h.cell 0, h.cell 1, h.cell 2⟩
theorem ur_size : (Tryz.prog.info? 28).map (·.size) = some 3 := by kernel_rfl
theorem ur_at {g : Nat} {u : Ur} {A : Option Addr} {c : Nat} {W : World} (h : Blk W g 28 (u.arr A c)) : ∀ j v, (u.arr A c).toList[j]? = some v → W.cell? ((⟨g, 0, none⟩ : Addr).add j) = some v := by
  intro j v hv
  rw [show ((⟨g, 0, none⟩ : Addr).add j) = ⟨g, j, none⟩ by unfold Addr.add; split <;> simp_all, h.cell j]
  simpa using hv
theorem yieldsIf_load_ur {ops : Array Oper} {S : World → Prop} {op : Oper} {a : Act} (hw : Region.wanted op (yielded ops a.tmps) = true) (x : Operand) (ho : op.op = .load 28 x)
    (g : Nat) (hx : a.eval x = .pointer (some ⟨g, 0, none⟩)) (u : Ur) (A : Option Addr) (c : Nat) (hS : ∀ w, S w → Blk w g 28 (u.arr A c)) : YieldsIf Tryz.prog ops S op (.agg (u.arr A c)) a :=
  .inl ⟨hw, fun w hw' => by
    unfold execOp
    simp only [ho, hx, Instr.loadAt, Instr.sureAddr, Sem.run_bind, Sem.run_pure, Result.andThen_ok, run_loadVar_at w ⟨g, 0, none⟩ 28 (u.arr A c).toList _ (ur_at (hS w hw')) Tryz.underlying28 rfl ur_size]⟩
theorem wpList_load_ur {ops : Array Oper} {rest : List Oper} {o : Oper} {a : Act} {w : World} {Q : Exit → Act → World → Prop} (hgd : o.guard = none) (x : Operand) (ho : o.op = .load 28 x)
    (g : Nat) (hx : a.eval x = .pointer (some ⟨g, 0, none⟩)) (u : Ur) (A : Option Addr) (c : Nat) (hb : Blk w g 28 (u.arr A c))
    (h : wpList Tryz.prog ops Q rest (a.put o.dst (.agg (u.arr A c))) w) : wpList Tryz.prog ops Q (o :: rest) a w :=
  wpList_load_at hgd 28 x ho ⟨g, 0, none⟩ hx (u.arr A c).toList _ (ur_at hb) Tryz.underlying28 rfl ur_size h
theorem target_len (u : Ur) : (targetL u).length ≤ u.p.length + 1 + 3 * sumF u.q + 2 * u.q.length := by
  unfold targetL
  split
  · omega
  · rw [List.length_append, List.length_cons]
    have := printL_len u.q
    omega
set_option maxHeartbeats 4000000 in
theorem target_walk (u : Ur) (A : Option Addr) (c : Nat) (w : World) (h : UrAt w A c u) (hq : u.q.length ≤ 4000) (hd : DigOk w) :
    Calls Tryz.prog 31 #[.agg (u.arr A c)] w fun e w' => e = .returned (.string ⟨(targetL u).toArray⟩) ∧ Below w.heap.size w w' := by
  have HB := Lib.hid ((Below.refl w.heap.size w).alloc (Nat.le_refl _) (.cells (u.arr A c) 28))
  obtain ⟨hKb, hc0, hc1, hc2⟩ := boxU (Blk.new w 28 (u.arr A c))
  have H := Lib.hid h
  obtain ⟨_, _, hp, hs⟩ := h
  have HD := Lib.hid hd
  clear hd
  have hpl := printL_len u.q
  have cp := Lib.hid (fun W h1 h2 => print_walk u.q A c W h1 h2 (by omega))
  have htl : Hid (targetL u = if u.q = [] then u.p else u.p ++ 63 :: printL u.q) := rfl
  by_cases h0 : u.q = []
  · have hz : ((u.q.length : Int) == 0) = true := by rw [h0]; rfl
    have hv : Hid (targetL u = u.p) := if_pos h0
    have hlz : u.q.length = 0 := by rw [h0]; rfl
    clear h0
    go_enter Tryz.func31, Tryz.ntmps31
    go_wp2_with fail
    go_ret
    exact ⟨by rw [hv.out]; rfl, HB.out⟩
  · have hl1 : 1 ≤ u.q.length := by cases hh : u.q with | nil => exact absurd hh h0 | cons _ _ => simp
    have hz : ((u.q.length : Int) == 0) = false := by rw [beq_eq_false_iff_ne]; omega
    have hv : Hid ((⟨u.p.toArray⟩ : ByteArray) ++ ⟨#[63]⟩ ++ ⟨(printL u.q).toArray⟩ = ⟨(targetL u).toArray⟩) := by
      show _ = _
      rw [htl.out, if_neg h0]
      apply str_eq
      simp [ByteArray.data_append]
    have hx1 := size_mks u.p
    have hx2 := size_mks (printL u.q)
    obtain ⟨x, hx⟩ : ∃ x : ByteArray, (⟨(printL u.q).toArray⟩ : ByteArray) = x := ⟨_, rfl⟩
    rw [hx] at hv cp hx2
    have hk1 : ¬ 9223372036854775807 < u.p.length + 1 := by omega
    have hk2 : ¬ 9223372036854775807 < u.p.length + 1 + (printL u.q).length := by omega
    clear h0 htl hx
    have hS0 := boxU (Blk.new w 28 (u.arr A c)).drew
    go_enter Tryz.func31, Tryz.ntmps31
    go_wp2_with fail
    refine wp_region_held_drew (S := fun W => Blk W w.heap.size 28 (u.arr A c) ∧ W.cell? ⟨w.heap.size, 0, none⟩ = some (.string ⟨u.h.toArray⟩) ∧ W.cell? ⟨w.heap.size, 1, none⟩ = some (.string ⟨u.p.toArray⟩) ∧ W.cell? ⟨w.heap.size, 2, none⟩ = some (.slice A u.q.length c)) (by kernel_rfl) hS0 (fun hHeld => ?_)
    first | (refine wpAnyH_take (i := 0) (v := _) rfl (by kernel_rfl) (by kernel_rfl) (by kernel_rfl) (fun _ _ _ h => h) (Or.inr ⟨?_, rfl⟩) (by assumption) ?_; rfl) | (refine wpAnyH_take (i := 0) (v := ?_) rfl (by kernel_rfl) (by kernel_rfl) (by kernel_rfl) (fun _ _ _ h => h) (Or.inl ⟨?_, ?_⟩) (by assumption) ?_; rotate_left; rfl; focus (intro w hSw; (try dsimp only at hSw); go_simp; all_goals (with_reducible rfl)))
    (try simp only [List.getElem_toArray, List.getElem_cons_zero, List.getElem_cons_succ, Act.put, List.setIfInBounds_toArray, List.set_cons_zero, List.set_cons_succ])
    first | (refine wpAnyH_take (i := 1) (v := _) rfl (by kernel_rfl) (by kernel_rfl) (by kernel_rfl) (fun _ _ _ h => h) (Or.inr ⟨?_, rfl⟩) (by assumption) ?_; rfl) | (refine wpAnyH_take (i := 1) (v := ?_) rfl (by kernel_rfl) (by kernel_rfl) (by kernel_rfl) (fun _ _ _ h => h) (Or.inl ⟨?_, ?_⟩) (by assumption) ?_; rotate_left; rfl; focus (intro w hSw; (try dsimp only at hSw); go_simp; all_goals (with_reducible rfl)))
    (try simp only [List.getElem_toArray, List.getElem_cons_zero, List.getElem_cons_succ, Act.put, List.setIfInBounds_toArray, List.set_cons_zero, List.set_cons_succ])
    first | (refine wpAnyH_take (i := 2) (v := _) rfl (by kernel_rfl) (by kernel_rfl) (by kernel_rfl) (fun _ _ _ h => h) (Or.inr ⟨?_, rfl⟩) (by assumption) ?_; rfl) | (refine wpAnyH_take (i := 2) (v := ?_) rfl (by kernel_rfl) (by kernel_rfl) (by kernel_rfl) (fun _ _ _ h => h) (Or.inl ⟨?_, ?_⟩) (by assumption) ?_; rotate_left; rfl; focus (intro w hSw; (try dsimp only at hSw); go_simp; all_goals (with_reducible rfl)))
    (try simp only [List.getElem_toArray, List.getElem_cons_zero, List.getElem_cons_succ, Act.put, List.setIfInBounds_toArray, List.set_cons_zero, List.set_cons_succ])
    first | (refine wpAnyH_take (i := 3) (v := _) rfl (by kernel_rfl) (by kernel_rfl) (by kernel_rfl) (fun _ _ _ h => h) (Or.inr ⟨?_, rfl⟩) (by assumption) ?_; rfl) | (refine wpAnyH_take (i := 3) (v := ?_) rfl (by kernel_rfl) (by kernel_rfl) (by kernel_rfl) (fun _ _ _ h => h) (Or.inl ⟨?_, ?_⟩) (by assumption) ?_; rotate_left; rfl; focus (intro w hSw; (try dsimp only at hSw); go_simp; all_goals (with_reducible rfl)))
    (try simp only [List.getElem_toArray, List.getElem_cons_zero, List.getElem_cons_succ, Act.put, List.setIfInBounds_toArray, List.set_cons_zero, List.set_cons_succ])
    first | (refine wpAnyH_take (i := 4) (v := _) rfl (by kernel_rfl) (by kernel_rfl) (by kernel_rfl) (fun _ _ _ h => h) (Or.inr ⟨?_, rfl⟩) (by assumption) ?_; rfl) | (refine wpAnyH_take (i := 4) (v := ?_) rfl (by kernel_rfl) (by kernel_rfl) (by kernel_rfl) (fun _ _ _ h => h) (Or.inl ⟨?_, ?_⟩) (by assumption) ?_; rotate_left; rfl; focus (intro w hSw; (try dsimp only at hSw); go_simp; all_goals (with_reducible rfl)))
    (try simp only [List.getElem_toArray, List.getElem_cons_zero, List.getElem_cons_succ, Act.put, List.setIfInBounds_toArray, List.set_cons_zero, List.set_cons_succ])
    refine wpAnyH_ready (rs := [5]) (by kernel_rfl) (by simp) ?_
    refine AllReadyH.cons rfl (fun K hK => ?_) AllReadyH.nil
    go_simp
    go_at_call 54
    with_reducible refine (cp.out _ (H.out.below HB.out.drew).fs (HD.out.below HB.out.drew)).mono ?_
    rintro _ w6 ⟨rfl, hbn⟩
    have hb6 := below_next HB.out.drew hbn
    have hk6 := Blk.below hS0.1 hbn hS0.1.lt
    refine hK.out _ _ (boxU hk6) (fun hHeld => ?_)
    clear hK K hbn
    (try simp only [List.getElem_toArray, List.getElem_cons_zero, List.getElem_cons_succ, Act.put, List.setIfInBounds_toArray, List.set_cons_zero, List.set_cons_succ])
    first | (refine wpAnyH_take (i := 6) (v := _) rfl (by kernel_rfl) (by kernel_rfl) (by kernel_rfl) (fun _ _ _ h => h) (Or.inr ⟨?_, rfl⟩) (by assumption) ?_; rfl) | (refine wpAnyH_take (i := 6) (v := ?_) rfl (by kernel_rfl) (by kernel_rfl) (by kernel_rfl) (fun _ _ _ h => h) (Or.inl ⟨?_, ?_⟩) (by assumption) ?_; rotate_left; rfl; focus (intro w hSw; (try dsimp only at hSw); go_simp; all_goals (with_reducible rfl)))
    (try simp only [List.getElem_toArray, List.getElem_cons_zero, List.getElem_cons_succ, Act.put, List.setIfInBounds_toArray, List.set_cons_zero, List.set_cons_succ])
    first | (refine wpAnyH_take (i := 7) (v := _) rfl (by kernel_rfl) (by kernel_rfl) (by kernel_rfl) (fun _ _ _ h => h) (Or.inr ⟨?_, rfl⟩) (by assumption) ?_; rfl) | (refine wpAnyH_take (i := 7) (v := ?_) rfl (by kernel_rfl) (by kernel_rfl) (by kernel_rfl) (fun _ _ _ h => h) (Or.inl ⟨?_, ?_⟩) (by assumption) ?_; rotate_left; rfl; focus (intro w hSw; (try dsimp only at hSw); go_simp; all_goals (with_reducible rfl)))
    (try simp only [List.getElem_toArray, List.getElem_cons_zero, List.getElem_cons_succ, Act.put, List.setIfInBounds_toArray, List.set_cons_zero, List.set_cons_succ])
    refine wpAnyH_done (by kernel_rfl) ?_ _
    clear hHeld hS0
    go_wp2_with fail
    go_ret
    exact ⟨by rw [← hv.out]; rfl, hb6⟩
set_option maxHeartbeats 4000000 in
theorem rtarget_walk (u : Ur) (A : Option Addr) (c : Nat) (w : World) (h : UrAt w A c u) (hq : u.q.length ≤ 4000) :
    Calls Tryz.prog 36 #[.agg (u.arr A c)] w fun e w' => e = .returned (.string ⟨(targetL u).toArray⟩) ∧ Below w.heap.size w w' := by
  have HB := Lib.hid ((Below.refl w.heap.size w).alloc (Nat.le_refl _) (.cells (u.arr A c) 28))
  obtain ⟨hKb, hc0, hc1, hc2⟩ := boxU (Blk.new w 28 (u.arr A c))
  have H := Lib.hid h
  obtain ⟨_, _, hp, hs⟩ := h
  have hpl := printL_len u.q
  have cp := Lib.hid (fun W h1 => rprint_walk u.q A c W h1 (by omega))
  have htl : Hid (targetL u = if u.q = [] then u.p else u.p ++ 63 :: printL u.q) := rfl
  by_cases h0 : u.q = []
  · have hz : ((u.q.length : Int) == 0) = true := by rw [h0]; rfl
    have hv : Hid (targetL u = u.p) := if_pos h0
    have hlz : u.q.length = 0 := by rw [h0]; rfl
    clear h0
    go_enter Tryz.func36, Tryz.ntmps36
    go_wp2_with fail
    go_ret
    exact ⟨by rw [hv.out]; rfl, HB.out⟩
  · have hl1 : 1 ≤ u.q.length := by cases hh : u.q with | nil => exact absurd hh h0 | cons _ _ => simp
    have hz : ((u.q.length : Int) == 0) = false := by rw [beq_eq_false_iff_ne]; omega
    have hv : Hid ((⟨u.p.toArray⟩ : ByteArray) ++ ⟨#[63]⟩ ++ ⟨(printL u.q).toArray⟩ = ⟨(targetL u).toArray⟩) := by
      show _ = _
      rw [htl.out, if_neg h0]
      apply str_eq
      simp [ByteArray.data_append]
    have hx1 := size_mks u.p
    have hx2 := size_mks (printL u.q)
    obtain ⟨x, hx⟩ : ∃ x : ByteArray, (⟨(printL u.q).toArray⟩ : ByteArray) = x := ⟨_, rfl⟩
    rw [hx] at hv cp hx2
    have hk1 : ¬ 9223372036854775807 < u.p.length + 1 := by omega
    have hk2 : ¬ 9223372036854775807 < u.p.length + 1 + (printL u.q).length := by omega
    clear h0 htl hx
    have hS0 := boxU (Blk.new w 28 (u.arr A c)).drew
    go_enter Tryz.func36, Tryz.ntmps36
    go_wp2_with fail
    refine wp_region_held_drew (S := fun W => Blk W w.heap.size 28 (u.arr A c) ∧ W.cell? ⟨w.heap.size, 0, none⟩ = some (.string ⟨u.h.toArray⟩) ∧ W.cell? ⟨w.heap.size, 1, none⟩ = some (.string ⟨u.p.toArray⟩) ∧ W.cell? ⟨w.heap.size, 2, none⟩ = some (.slice A u.q.length c)) (by kernel_rfl) hS0 (fun hHeld => ?_)
    first | (refine wpAnyH_take (i := 0) (v := _) rfl (by kernel_rfl) (by kernel_rfl) (by kernel_rfl) (fun _ _ _ h => h) (Or.inr ⟨?_, rfl⟩) (by assumption) ?_; rfl) | (refine wpAnyH_take (i := 0) (v := ?_) rfl (by kernel_rfl) (by kernel_rfl) (by kernel_rfl) (fun _ _ _ h => h) (Or.inl ⟨?_, ?_⟩) (by assumption) ?_; rotate_left; rfl; focus (intro w hSw; (try dsimp only at hSw); go_simp; all_goals (with_reducible rfl)))
    (try simp only [List.getElem_toArray, List.getElem_cons_zero, List.getElem_cons_succ, Act.put, List.setIfInBounds_toArray, List.set_cons_zero, List.set_cons_succ])
    first | (refine wpAnyH_take (i := 1) (v := _) rfl (by kernel_rfl) (by kernel_rfl) (by kernel_rfl) (fun _ _ _ h => h) (Or.inr ⟨?_, rfl⟩) (by assumption) ?_; rfl) | (refine wpAnyH_take (i := 1) (v := ?_) rfl (by kernel_rfl) (by kernel_rfl) (by kernel_rfl) (fun _ _ _ h => h) (Or.inl ⟨?_, ?_⟩) (by assumption) ?_; rotate_left; rfl; focus (intro w hSw; (try dsimp only at hSw); go_simp; all_goals (with_reducible rfl)))
    (try simp only [List.getElem_toArray, List.getElem_cons_zero, List.getElem_cons_succ, Act.put, List.setIfInBounds_toArray, List.set_cons_zero, List.set_cons_succ])
    first | (refine wpAnyH_take (i := 2) (v := _) rfl (by kernel_rfl) (by kernel_rfl) (by kernel_rfl) (fun _ _ _ h => h) (Or.inr ⟨?_, rfl⟩) (by assumption) ?_; rfl) | (refine wpAnyH_take (i := 2) (v := ?_) rfl (by kernel_rfl) (by kernel_rfl) (by kernel_rfl) (fun _ _ _ h => h) (Or.inl ⟨?_, ?_⟩) (by assumption) ?_; rotate_left; rfl; focus (intro w hSw; (try dsimp only at hSw); go_simp; all_goals (with_reducible rfl)))
    (try simp only [List.getElem_toArray, List.getElem_cons_zero, List.getElem_cons_succ, Act.put, List.setIfInBounds_toArray, List.set_cons_zero, List.set_cons_succ])
    first | (refine wpAnyH_take (i := 3) (v := _) rfl (by kernel_rfl) (by kernel_rfl) (by kernel_rfl) (fun _ _ _ h => h) (Or.inr ⟨?_, rfl⟩) (by assumption) ?_; rfl) | (refine wpAnyH_take (i := 3) (v := ?_) rfl (by kernel_rfl) (by kernel_rfl) (by kernel_rfl) (fun _ _ _ h => h) (Or.inl ⟨?_, ?_⟩) (by assumption) ?_; rotate_left; rfl; focus (intro w hSw; (try dsimp only at hSw); go_simp; all_goals (with_reducible rfl)))
    (try simp only [List.getElem_toArray, List.getElem_cons_zero, List.getElem_cons_succ, Act.put, List.setIfInBounds_toArray, List.set_cons_zero, List.set_cons_succ])
    first | (refine wpAnyH_take (i := 4) (v := _) rfl (by kernel_rfl) (by kernel_rfl) (by kernel_rfl) (fun _ _ _ h => h) (Or.inr ⟨?_, rfl⟩) (by assumption) ?_; rfl) | (refine wpAnyH_take (i := 4) (v := ?_) rfl (by kernel_rfl) (by kernel_rfl) (by kernel_rfl) (fun _ _ _ h => h) (Or.inl ⟨?_, ?_⟩) (by assumption) ?_; rotate_left; rfl; focus (intro w hSw; (try dsimp only at hSw); go_simp; all_goals (with_reducible rfl)))
    (try simp only [List.getElem_toArray, List.getElem_cons_zero, List.getElem_cons_succ, Act.put, List.setIfInBounds_toArray, List.set_cons_zero, List.set_cons_succ])
    refine wpAnyH_ready (rs := [5]) (by kernel_rfl) (by simp) ?_
    refine AllReadyH.cons rfl (fun K hK => ?_) AllReadyH.nil
    go_simp
    go_at_call 58
    with_reducible refine (cp.out _ (H.out.below HB.out.drew).fs).mono ?_
    rintro _ w6 ⟨rfl, hbn⟩
    have hb6 := below_next HB.out.drew hbn
    have hk6 := Blk.below hS0.1 hbn hS0.1.lt
    refine hK.out _ _ (boxU hk6) (fun hHeld => ?_)
    clear hK K hbn
    (try simp only [List.getElem_toArray, List.getElem_cons_zero, List.getElem_cons_succ, Act.put, List.setIfInBounds_toArray, List.set_cons_zero, List.set_cons_succ])
    first | (refine wpAnyH_take (i := 6) (v := _) rfl (by kernel_rfl) (by kernel_rfl) (by kernel_rfl) (fun _ _ _ h => h) (Or.inr ⟨?_, rfl⟩) (by assumption) ?_; rfl) | (refine wpAnyH_take (i := 6) (v := ?_) rfl (by kernel_rfl) (by kernel_rfl) (by kernel_rfl) (fun _ _ _ h => h) (Or.inl ⟨?_, ?_⟩) (by assumption) ?_; rotate_left; rfl; focus (intro w hSw; (try dsimp only at hSw); go_simp; all_goals (with_reducible rfl)))
    (try simp only [List.getElem_toArray, List.getElem_cons_zero, List.getElem_cons_succ, Act.put, List.setIfInBounds_toArray, List.set_cons_zero, List.set_cons_succ])
    first | (refine wpAnyH_take (i := 7) (v := _) rfl (by kernel_rfl) (by kernel_rfl) (by kernel_rfl) (fun _ _ _ h => h) (Or.inr ⟨?_, rfl⟩) (by assumption) ?_; rfl) | (refine wpAnyH_take (i := 7) (v := ?_) rfl (by kernel_rfl) (by kernel_rfl) (by kernel_rfl) (fun _ _ _ h => h) (Or.inl ⟨?_, ?_⟩) (by assumption) ?_; rotate_left; rfl; focus (intro w hSw; (try dsimp only at hSw); go_simp; all_goals (with_reducible rfl)))
    (try simp only [List.getElem_toArray, List.getElem_cons_zero, List.getElem_cons_succ, Act.put, List.setIfInBounds_toArray, List.set_cons_zero, List.set_cons_succ])
    refine wpAnyH_done (by kernel_rfl) ?_ _
    clear hHeld hS0
    go_wp2_with fail
    go_ret
    exact ⟨by rw [← hv.out]; rfl, hb6⟩
end Go.Proofs.YtolfcpbcccbmmaaGreatDoor
