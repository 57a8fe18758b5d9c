import Derived.Test.YtolfcpbcccbmmaaGreatDoorPa
set_option linter.unusedVariables false
set_option linter.unusedSimpArgs false
set_option maxRecDepth 20000
namespace Go.Proofs.YtolfcpbcccbmmaaGreatDoor
open Go.RowKit Pc
/-- the sixteen digits stand in their variable -/
def DigOk (w : World) : Prop := 1 < w.heap.size ∧ ∀ i, i < 16 → w.cell? ⟨1, i, none⟩ = some (.int .i32 (hx i : Nat))
theorem DigOk.below {w w' : World} (h : DigOk w) (hb : Below w.heap.size w w') : DigOk w' :=
  ⟨Nat.lt_of_lt_of_le h.1 hb.size, fun i hi => (hb.cell (p := ⟨1, i, none⟩) h.1).trans (h.2 i hi)⟩
theorem dg_of_hx {i : Nat} (h : i < 16) : dgI (hx i) = i := by
  have : ∀ n : Fin 16, dgI (hx n.val) = n.val := by decide
  exact this ⟨i, h⟩
theorem dg_no {c : Nat} (h : ∀ j, j < 16 → hx j ≠ c) : dgI c = -1 := by
  unfold dgI
  cases hd : dg c with
  | none => rfl
  | some x =>
    obtain ⟨h1, h2⟩ := dg_hx hd
    exact absurd h2 (h x h1)
set_option maxHeartbeats 1000000 in
theorem index_walk (c : Nat) (w : World) (hd : DigOk w) (hc : c < 256) :
    Calls Tryz.prog 101 #[.slice (some ⟨1, 0, none⟩) 16 16, .int .i32 (c : Int)] w fun e w' => e = .returned (.int .i64 (dgI c)) ∧ w = w' := by
  obtain ⟨hd0, hd1⟩ := hd
  have HD := Lib.hid hd1
  clear hd1
  go_enter Tryz.func101, Tryz.ntmps101
  go_wp2_with fail
  go_loopw [8] (fun nv wr => ∃ i : Nat, i ≤ 16 ∧ nv = .int .i64 i ∧ Hid (∀ j, j < i → hx j ≠ c) ∧ w = wr) (fun nv _ => 16 - (intOf nv).toNat)
  case atStart => exact ⟨0, by omega, rfl, fun j hj => by omega, rfl⟩
  case round =>
    obtain ⟨i, hi, rfl, hno, rfl⟩ := hrel
    by_cases hlt : i < 16
    · obtain ⟨x, hx1, hx2⟩ : ∃ x : Nat, Hid (hx i = x) ∧ w.cell? ⟨1, i, none⟩ = some (.int .i32 (x : Int)) := ⟨_, rfl, HD.out i hlt⟩
      by_cases he : x = c
      · have hv : Hid (dgI c = i) := by show _ = _; rw [← he, ← hx1.out]; exact dg_of_hx hlt
        have hq : ((c : Int) == (x : Int)) = true := by rw [beq_iff_eq]; omega
        clear he
        go_wp2_with fail
        go_ret
        exact ⟨by rw [hv.out]; rfl, rfl⟩
      · have hq : ((c : Int) == (x : Int)) = false := by rw [beq_eq_false_iff_ne]; omega
        have HN : Hid (∀ j, j < i + 1 → hx j ≠ c) := fun j hj => by
          rcases Nat.lt_or_ge j i with h | h
          · exact hno.out j h
          · rw [show j = i by omega, hx1.out]; exact he
        clear he
        go_wp2_with fail
        exact ⟨⟨i + 1, by omega, by go_num, HN, trivial⟩, by simp [intOf]; omega⟩
    · have hv : Hid (dgI c = -1) := dg_no (fun j hj => hno.out j (by omega))
      go_wp2_with fail
      go_ret
      exact ⟨by rw [hv.out]; rfl, rfl⟩
end Go.Proofs.YtolfcpbcccbmmaaGreatDoor
