import Derived.Test.YtekpdkjkkglcjaaMe
import Derived.Test.YtekpdkjkkglcjaaMt
set_option linter.unusedVariables false
set_option linter.unusedSimpArgs false
set_option maxRecDepth 20000
namespace Go.Proofs.Ytekpdkjkkglcjaa
open Go.RowKit B64
set_option maxHeartbeats 400000 in
theorem sgn_walk (c : UInt8) (w : World) :
    Calls Try.prog 59 #[.int .u8 (c.toNat : Int)] w fun e w' => e = .returned (.int .i64 (Lib.indexByte signs c)) ∧ w = w' := by
  go_enter Try.func59, Try.ntmps59
  go_wp2_with fail
  go_loop [3] (fun i => ∃ k : Nat, k ≤ 64 ∧ i = .int .i64 k ∧ Hid (∀ j, j < k → sgn j ≠ c)) (fun i => 64 - (intOf i).toNat)
  case atStart => exact ⟨0, by omega, rfl, fun j hj => by omega⟩
  case round =>
    obtain ⟨k, hk, rfl, hno⟩ := hrel
    by_cases hlt : k < 64
    · have hsg := sign_ix k hlt
      by_cases he : sgn k = c
      · have hb : (((sgn k).toNat : Int) == (c.toNat : Int)) = true := by simp only [he, beq_self_eq_true]
        have hf := Lib.hid (index_at signs c k (by simpa [signs] using hlt) he hno.out)
        have HE := Lib.hid he
        clear he
        go_wp2_with fail
        go_ret
        exact ⟨by rw [hf.out]; rfl, rfl⟩
      · have hb : (((sgn k).toNat : Int) == (c.toNat : Int)) = false := by
          rw [beq_eq_false_iff_ne]
          intro h
          exact he (UInt8.toNat_inj.1 (by exact_mod_cast h))
        have HN : Hid (∀ j, j < k + 1 → sgn j ≠ c) := fun j hj => by
          rcases Nat.lt_or_ge j k with h | h
          · exact hno.out j h
          · rw [show j = k by omega]; exact he
        clear he
        go_wp2_with fail
        go_round
        case rel => exact ⟨k + 1, by omega, by go_num, HN⟩
        case measure => simp [intOf]; omega
    · have hf := Lib.hid (index_none signs c (fun j hj => hno.out j (by simp [signs] at hj; omega)))
      go_wp2_with fail
      go_ret
      exact ⟨by rw [hf.out]; rfl, rfl⟩
end Go.Proofs.Ytekpdkjkkglcjaa
