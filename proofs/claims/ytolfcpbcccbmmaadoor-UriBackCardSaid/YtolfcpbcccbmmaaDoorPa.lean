import Derived.Test.YtolfcpbcccbmmaaDoorRp
import Derived.Test.YtolfcpbcccbmmaaDoorLt
import Derived.Test.YtolfcpbcccbmmaaDoorPp
import Derived.Lib.ConvBytes
set_option linter.unusedVariables false
set_option linter.unusedSimpArgs false
set_option maxRecDepth 20000
namespace Go.Proofs.YtolfcpbcccbmmaaDoor
open Go.RowKit Pc
theorem below_next {w0 w1 w2 : World} (h : Below w0.heap.size w0 w1) (k : Below w1.heap.size w1 w2) : Below w0.heap.size w0 w2 := h.trans (k.mono h.size)
theorem hex_walk (n : Nat) (w : World) (hn : n < 16) : Calls Tryd.prog 78 #[.int .i64 (n : Int)] w fun e w' => e = .returned (.int .u8 (hx n : Nat)) ∧ w = w' := by
  by_cases h : n < 10
  · have hv : Hid (((hx n : Nat) : Int) = 48 + n) := by show _ = _; rw [hx, if_pos h]; omega
    go_enter Tryd.func78, Tryd.ntmps78
    go_wp2_with fail
    go_ret
    exact ⟨by rw [hv.out]; rfl, rfl⟩
  · have hv : Hid (((hx n : Nat) : Int) = 65 + n - 10) := by show _ = _; rw [hx, if_neg h]; omega
    go_enter Tryd.func78, Tryd.ntmps78
    go_wp2_with fail
    go_ret
    exact ⟨by rw [hv.out]; rfl, rfl⟩
def dgI (c : Nat) : Int := match dg c with | some x => x | none => -1
def bareR (c : Nat) (form : Bool) : Nat := if form && c == 32 then 43 else c
def bareB (c : Nat) (form : Bool) : Bool := (form && c == 32) || plainB c
theorem bare_walk (c : Nat) (form : Bool) (w : World) (hc : c < 256) : Calls Tryd.prog 73 #[.int .u8 (c : Int), .bool form] w fun e w' => e = .returned (.tuple #[.int .i32 (bareR c form : Nat), .bool (bareB c form)]) ∧ w = w' := by
  have cp := Lib.hid (plain_walk c)
  cases form
  · have h1 : Hid (bareR c false = c) := rfl
    have h2 : Hid (bareB c false = plainB c) := rfl
    go_enter Tryd.func73, Tryd.ntmps73
    go_wp2_with fail
    refine (cp.out _).mono ?_
    rintro _ w1 ⟨rfl, rfl⟩
    go_wp2_with fail
    go_ret2
    exact ⟨by rw [h1.out, h2.out]; rfl, rfl⟩
  · by_cases h : c = 32
    · subst h
      clear cp hc
      go_enter Tryd.func73, Tryd.ntmps73
      go_wp2_with fail
      go_ret2
      exact ⟨rfl, rfl⟩
    · have h1 : Hid (bareR c true = c) := by show _ = _; simp [bareR, h]
      have h2 : Hid (bareB c true = plainB c) := by show _ = _; simp [bareB, h]
      have hb : ((c : Int) == 32) = false := by rw [beq_eq_false_iff_ne]; omega
      clear h
      go_enter Tryd.func73, Tryd.ntmps73
      go_wp2_with fail
      refine (cp.out _).mono ?_
      rintro _ w1 ⟨rfl, rfl⟩
      go_wp2_with fail
      go_ret2
      exact ⟨by rw [h1.out, h2.out]; rfl, rfl⟩
end Go.Proofs.YtolfcpbcccbmmaaDoor
