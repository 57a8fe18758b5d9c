import Derived.Test.YtnckjglohaaobaaDp
set_option linter.unusedVariables false
set_option linter.unusedSimpArgs false
namespace Go.Proofs.Ytnckjglohaaobaa
open Go.RowKit
def pairs : Nat → List UInt8
  | 0 => []
  | j + 1 => 7 :: 2 :: 0 :: 0 :: 0 :: 1 :: pairs j
theorem pairs_len : ∀ j, (pairs j).length = 6 * j
  | 0 => rfl
  | j + 1 => by rw [pairs]; simp [pairs_len j]; omega
theorem pairs_drop : ∀ i j, i ≤ j → (pairs j).drop (6 * i) = pairs (j - i)
  | 0, j, _ => rfl
  | i + 1, 0, h => by omega
  | i + 1, j + 1, h => by
    rw [pairs, show 6 * (i + 1) = 6 * i + 6 by omega]
    simp only [List.drop_succ_cons]
    rw [pairs_drop i j (by omega), show j + 1 - (i + 1) = j - i by omega]
theorem pairs_at {i j r : Nat} (h : i ≤ j) : (pairs j)[6 * i + r]? = (pairs (j - i))[r]? := by rw [← pairs_drop i j h, List.getElem?_drop]
theorem pairs_num {i j : Nat} (h : i < j) : numT (pairs j) (6 * i + 2) 4 1073741824 = .ok (1, 6 * i + 6) := by
  have hl := pairs_len j
  have hd : (pairs j).drop (6 * i + 2) = 0 :: 0 :: 0 :: 1 :: pairs (j - i - 1) := by
    rw [← List.drop_drop, pairs_drop i j (by omega), show j - i = (j - i - 1) + 1 by omega, pairs]
    rfl
  rw [numT, if_neg (by omega), hd]
  simp [beN]
theorem deep_pairs (j : Nat) : ∀ (d i n : Nat), i ≤ j → n + 2 * d ≤ 64 → decT d (pairs j) (6 * i) n = .error (if d ≤ j - i then 4 else 1)
  | 0, i, n, hp, hn => by rw [decT, if_pos (by omega)]
  | d + 1, i, n, hp, hn => by
    rw [decT, if_neg (by omega)]
    by_cases h : i < j
    · have hg : (pairs j)[6 * i]? = some 7 := by
        have := pairs_at (r := 0) (show i ≤ j by omega)
        rw [Nat.add_zero] at this
        rw [this, show j - i = (j - i - 1) + 1 by omega, pairs]
        rfl
      have hg1 : (pairs j)[6 * i + 1]? = some 2 := by
        rw [pairs_at (r := 1) (show i ≤ j by omega), show j - i = (j - i - 1) + 1 by omega, pairs]
        rfl
      rw [hg]
      have e7 : (7 : UInt8).toNat = 7 := rfl
      simp only [e7]
      rw [if_neg (show ¬ (7 : Nat) = 1 by omega), if_neg (show ¬ (7 : Nat) = 2 by omega), if_neg (show ¬ ((7 : Nat) = 3 ∨ (7 : Nat) = 4) by omega), if_pos (.inr (.inr trivial)), decK]
      cases d with
      | zero =>
        rw [decT]
        simp only
        rw [if_pos (by omega)]
      | succ d =>
        have hK := deep_pairs j (d + 1) (i + 1) (n + 1 + 1) (by omega) (by omega)
        have hT : decT (d + 1) (pairs j) (6 * i + 1) (n + 1) = .ok (.mk 2 1 ⟨#[]⟩ [], 6 * i + 6, n + 1 + 1) := by
          rw [decT, if_neg (by omega), hg1]
          have e2 : (2 : UInt8).toNat = 2 := rfl
          simp only [e2]
          rw [if_neg (show ¬ (2 : Nat) = 1 by omega), if_pos trivial, pairs_num h]
          rfl
        rw [hT]
        simp only
        rw [decK_one, show 6 * i + 6 = 6 * (i + 1) by omega, hK]
        simp only
        congr 1
        by_cases hd : d + 1 + 1 ≤ j - i
        · rw [if_pos hd, if_pos (by omega)]
        · rw [if_neg hd, if_neg (by omega)]
    · have hg : (pairs j)[6 * i]? = none := by rw [List.getElem?_eq_none_iff, pairs_len]; omega
      rw [hg]
      simp only
      rw [if_neg (by omega)]
theorem ev_pairs (j : Nat) : takeT (pairs j) = .error (if 16 ≤ j then 4 else 1) := by
  have h := deep_pairs j 16 0 0 (by omega) (by omega)
  rw [Nat.mul_zero] at h
  rw [takeT, h]
  rfl
end Go.Proofs.Ytnckjglohaaobaa
