import Derived.Test.YtnckjglohaaobaaDo
set_option linter.unusedVariables false
set_option linter.unusedSimpArgs false
namespace Go.Proofs.Ytnckjglohaaobaa
open Go.RowKit
def signI (a b : Bool) : Int := if a then -1 else if b then 1 else 0
theorem sign_walk (a b : Bool) (w : World) : Calls Try.prog 42 #[.bool a, .bool b] w fun e w' => e = .returned (.int .i64 (signI a b)) ∧ w = w' := by
  cases a <;> cases b
  all_goals
    go_enter Try.func42, Try.ntmps42
    go_wp2_with fail
    go_ret
    exact ⟨rfl, rfl⟩
theorem ev_take : takeT [2, 0, 0, 1, 2] = .ok (.mk 2 258 ⟨#[]⟩ [], 5) := by
  simp [takeT, decT, numT, beN]
theorem ev_take7 : takeT [2, 0, 0, 1, 2, 7] = .ok (.mk 2 258 ⟨#[]⟩ [], 5) := by
  simp [takeT, decT, numT, beN]
theorem ev_one : oneT [2, 0, 0, 1, 2] = .ok (.mk 2 258 ⟨#[]⟩ []) := by
  rw [oneT, ev_take]
  simp
theorem ev_none : oneT [] = .error 1 := by
  simp [oneT, takeT, decT]
theorem ev_put : putT (.mk 2 258 ⟨#[]⟩ []) = [2, 0, 0, 1, 2] := by
  rw [putT, mayB]
  simp [mayT, mayK, rightB, kidsN, encT, encTs, numB, byteI]
theorem deep_short (k : Nat) : ∀ (d p n : Nat), p ≤ k → n + d ≤ 64 → decT d (List.replicate k 3) p n = .error (if d ≤ k - p then 4 else 1)
  | 0, p, n, hp, hn => by rw [decT, if_pos (by omega)]
  | d + 1, p, n, hp, hn => by
    rw [decT, if_neg (by omega)]
    by_cases h : p < k
    · have hg : (List.replicate k (3 : UInt8))[p]? = some 3 := by rw [List.getElem?_replicate, if_pos h]
      rw [hg]
      have hK := deep_short k d (p + 1) (n + 1) (by omega) (by omega)
      have e3 : (3 : UInt8).toNat = 3 := rfl
      simp only [e3]
      rw [if_neg (show ¬ (3 : Nat) = 1 by omega), if_neg (show ¬ (3 : Nat) = 2 by omega), if_pos (.inl trivial), decK_one, hK]
      simp only
      congr 1
      by_cases hd : d + 1 ≤ k - p
      · rw [if_pos hd, if_pos (by omega)]
      · rw [if_neg hd, if_neg (by omega)]
    · have hg : (List.replicate k (3 : UInt8))[p]? = none := by rw [List.getElem?_replicate, if_neg h]
      rw [hg]
      simp only
      rw [if_neg (by omega)]
theorem deep_nine (k : Nat) : ∀ (d p n : Nat), p ≤ k → n + d ≤ 64 → decT d (List.replicate k 3 ++ [9]) p n = .error (if d ≤ k - p then 4 else 2)
  | 0, p, n, hp, hn => by rw [decT, if_pos (by omega)]
  | d + 1, p, n, hp, hn => by
    rw [decT, if_neg (by omega)]
    by_cases h : p < k
    · have hg : (List.replicate k (3 : UInt8) ++ [9])[p]? = some 3 := by rw [List.getElem?_append_left (by simpa using h), List.getElem?_replicate, if_pos h]
      rw [hg]
      have hK := deep_nine k d (p + 1) (n + 1) (by omega) (by omega)
      have e3 : (3 : UInt8).toNat = 3 := rfl
      simp only [e3]
      rw [if_neg (show ¬ (3 : Nat) = 1 by omega), if_neg (show ¬ (3 : Nat) = 2 by omega), if_pos (.inl trivial), decK_one, hK]
      simp only
      congr 1
      by_cases hd : d + 1 ≤ k - p
      · rw [if_pos hd, if_pos (by omega)]
      · rw [if_neg hd, if_neg (by omega)]
    · obtain rfl : p = k := by omega
      have hg : (List.replicate p (3 : UInt8) ++ [9])[p]? = some 9 := by rw [List.getElem?_append_right (by simp)]; simp
      rw [hg]
      have e9 : (9 : UInt8).toNat = 9 := rfl
      simp only [e9]
      rw [if_neg (show ¬ (9 : Nat) = 1 by omega), if_neg (show ¬ (9 : Nat) = 2 by omega), if_neg (show ¬ ((9 : Nat) = 3 ∨ (9 : Nat) = 4) by omega), if_neg (show ¬ ((9 : Nat) = 5 ∨ (9 : Nat) = 6 ∨ (9 : Nat) = 7) by omega), if_neg (by omega)]
theorem ev_deep (k : Nat) : takeT (List.replicate k 3) = .error (if 16 ≤ k then 4 else 1) := by
  rw [takeT, deep_short k 16 0 0 (by omega) (by omega)]
  rfl
theorem ev_nine (k : Nat) : takeT (List.replicate k 3 ++ [9]) = .error (if 16 ≤ k then 4 else 2) := by
  rw [takeT, deep_nine k 16 0 0 (by omega) (by omega)]
  rfl
end Go.Proofs.Ytnckjglohaaobaa
