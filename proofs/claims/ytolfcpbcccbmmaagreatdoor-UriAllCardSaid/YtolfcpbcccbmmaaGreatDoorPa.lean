import Derived.Test.YtolfcpbcccbmmaaGreatDoorRp
import Derived.Test.YtolfcpbcccbmmaaGreatDoorLt
import Derived.Test.YtolfcpbcccbmmaaGreatDoorPp
import Derived.Lib.ConvBytes
set_option linter.unusedVariables false
set_option linter.unusedSimpArgs false
set_option maxRecDepth 20000
namespace Go.Proofs.YtolfcpbcccbmmaaGreatDoor
open Go.RowKit Pc
theorem below_next {w0 w1 w2 : World} (h : Below w0.heap.size w0 w1) (k : Below w1.heap.size w1 w2) : Below w0.heap.size w0 w2 := h.trans (k.mono h.size)
theorem hex_walk (n : Nat) (w : World) (hn : n < 16) : Calls Tryz.prog 85 #[.int .i64 (n : Int)] w fun e w' => e = .returned (.int .u8 (hx n : Nat)) ∧ w = w' := by
  by_cases h : n < 10
  · have hv : Hid (((hx n : Nat) : Int) = 48 + n) := by show _ = _; rw [hx, if_pos h]; omega
    go_enter Tryz.func85, Tryz.ntmps85
    go_wp2_with fail
    go_ret
    exact ⟨by rw [hv.out]; rfl, rfl⟩
  · have hv : Hid (((hx n : Nat) : Int) = 65 + n - 10) := by show _ = _; rw [hx, if_neg h]; omega
    go_enter Tryz.func85, Tryz.ntmps85
    go_wp2_with fail
    go_ret
    exact ⟨by rw [hv.out]; rfl, rfl⟩
def dgI (c : Nat) : Int := match dg c with | some x => x | none => -1
theorem rdig_walk (c : Nat) (w : World) (hc : c < 256) : Calls Tryz.prog 70 #[.int .u8 (c : Int)] w fun e w' => e = .returned (.int .i64 (dgI c)) ∧ w = w' := by
  by_cases h1 : 48 ≤ c ∧ c ≤ 57
  · have hv : Hid (dgI c = (c : Int) - 48) := by show _ = _; rw [dgI, dg, if_pos h1]; show ((c - 48 : Nat) : Int) = _; omega
    obtain ⟨h1, h2⟩ := h1
    go_enter Tryz.func70, Tryz.ntmps70
    go_wp2_with fail
    go_ret
    exact ⟨by rw [hv.out]; rfl, rfl⟩
  · by_cases h2 : 65 ≤ c ∧ c ≤ 70
    · have hv : Hid (dgI c = (c : Int) - 65 + 10) := by show _ = _; rw [dgI, dg, if_neg h1, if_pos h2]; show ((c - 55 : Nat) : Int) = _; omega
      obtain ⟨h2, h3⟩ := h2
      have h4 : ¬ c ≤ 57 := by omega
      have h5 : 48 ≤ c := by omega
      clear h1
      go_enter Tryz.func70, Tryz.ntmps70
      go_wp2_with fail
      go_ret
      exact ⟨by rw [hv.out]; rfl, rfl⟩
    · have hv : Hid (dgI c = -1) := by show _ = _; rw [dgI, dg, if_neg h1, if_neg h2]
      have hcl : c < 48 ∨ (48 ≤ c ∧ 57 < c ∧ c < 65) ∨ (48 ≤ c ∧ 57 < c ∧ 65 ≤ c ∧ 70 < c) := by omega
      clear h1 h2
      rcases hcl with h | ⟨h, h', h''⟩ | ⟨h, h', h'', h3⟩
      · have h4 : c < 65 := by omega
        go_enter Tryz.func70, Tryz.ntmps70
        go_wp2_with fail
        go_ret
        exact ⟨by rw [hv.out]; rfl, rfl⟩
      · go_enter Tryz.func70, Tryz.ntmps70
        go_wp2_with fail
        go_ret
        exact ⟨by rw [hv.out]; rfl, rfl⟩
      · go_enter Tryz.func70, Tryz.ntmps70
        go_wp2_with fail
        go_ret
        exact ⟨by rw [hv.out]; rfl, rfl⟩
def bareR (c : Nat) (form : Bool) : Nat := if form && c == 32 then 43 else c
def bareB (c : Nat) (form : Bool) : Bool := (form && c == 32) || plainB c
theorem bare_walk (c : Nat) (form : Bool) (w : World) (hc : c < 256) : Calls Tryz.prog 86 #[.int .u8 (c : Int), .bool form] w fun e w' => e = .returned (.tuple #[.int .i32 (bareR c form : Nat), .bool (bareB c form)]) ∧ w = w' := by
  have cp := Lib.hid (plain_walk c)
  cases form
  · have h1 : Hid (bareR c false = c) := rfl
    have h2 : Hid (bareB c false = plainB c) := rfl
    go_enter Tryz.func86, Tryz.ntmps86
    go_wp2_with fail
    refine (cp.out _).mono ?_
    rintro _ w1 ⟨rfl, rfl⟩
    go_wp2_with fail
    go_ret2
    exact ⟨by rw [h1.out, h2.out]; rfl, rfl⟩
  · by_cases h : c = 32
    · subst h
      clear cp hc
      go_enter Tryz.func86, Tryz.ntmps86
      go_wp2_with fail
      go_ret2
      exact ⟨rfl, rfl⟩
    · have h1 : Hid (bareR c true = c) := by show _ = _; simp [bareR, h]
      have h2 : Hid (bareB c true = plainB c) := by show _ = _; simp [bareB, h]
      have hb : ((c : Int) == 32) = false := by rw [beq_eq_false_iff_ne]; omega
      clear h
      go_enter Tryz.func86, Tryz.ntmps86
      go_wp2_with fail
      refine (cp.out _).mono ?_
      rintro _ w1 ⟨rfl, rfl⟩
      go_wp2_with fail
      go_ret2
      exact ⟨by rw [h1.out, h2.out]; rfl, rfl⟩
end Go.Proofs.YtolfcpbcccbmmaaGreatDoor
