/- Plain words of runes, more: a front of so many runes, cut again; what many of one rune are. No program in sight, no condition. -/
import Derived.Test.YtnnblddloabbjaaTx
set_option linter.unusedVariables false
namespace Go.Proofs.Ytnnblddloabbjaa.Tx
def dcf (x0 x1 x2 x3 : Nat) (b1 b2 b3 : Bool) : Nat × Nat :=
  if x0 < 128 then (x0, 1)
  else if x0 / 32 == 6 && b1 then
    if (x0 % 32) * 64 + x1 % 64 ≥ 128 then ((x0 % 32) * 64 + x1 % 64, 2) else (65533, 1)
  else if x0 / 16 == 14 && b1 && b2 then
    if (x0 % 16) * 4096 + (x1 % 64) * 64 + x2 % 64 ≥ 2048 && Utf8.valid ((x0 % 16) * 4096 + (x1 % 64) * 64 + x2 % 64) then ((x0 % 16) * 4096 + (x1 % 64) * 64 + x2 % 64, 3) else (65533, 1)
  else if x0 / 8 == 30 && b1 && b2 && b3 then
    if (x0 % 8) * 262144 + (x1 % 64) * 4096 + (x2 % 64) * 64 + x3 % 64 ≥ 65536 && Utf8.valid ((x0 % 8) * 262144 + (x1 % 64) * 4096 + (x2 % 64) * 64 + x3 % 64) then ((x0 % 8) * 262144 + (x1 % 64) * 4096 + (x2 % 64) * 64 + x3 % 64, 4) else (65533, 1)
  else (65533, 1)
theorem dc_dcf (l : List UInt8) : dc l = dcf (bt l 0) (bt l 1) (bt l 2) (bt l 3) (cont l 1) (cont l 2) (cont l 3) := rfl
theorem dcf_cut3 (x0 x1 x2 x3 y3 : Nat) (b1 b2 b3 : Bool) (h : (dcf x0 x1 x2 x3 b1 b2 b3).2 ≤ 3) : dcf x0 x1 x2 y3 b1 b2 false = dcf x0 x1 x2 x3 b1 b2 b3 := by
  unfold dcf at h ⊢
  by_cases h0 : x0 < 128
  · rw [if_pos h0, if_pos h0]
  rw [if_neg h0] at h ⊢
  rw [if_neg h0]
  by_cases h1 : (x0 / 32 == 6 && b1) = true
  · rw [if_pos h1, if_pos h1]
  rw [if_neg h1] at h ⊢
  rw [if_neg h1]
  by_cases h2 : (x0 / 16 == 14 && b1 && b2) = true
  · rw [if_pos h2, if_pos h2]
  rw [if_neg h2] at h ⊢
  rw [if_neg h2]
  by_cases h3 : (x0 / 8 == 30 && b1 && b2 && b3) = true
  · rw [if_pos h3] at h ⊢
    rw [if_neg (show ¬ (x0 / 8 == 30 && b1 && b2 && false) = true by simp)]
    by_cases h4 : (decide ((x0 % 8) * 262144 + (x1 % 64) * 4096 + (x2 % 64) * 64 + x3 % 64 ≥ 65536) && Utf8.valid ((x0 % 8) * 262144 + (x1 % 64) * 4096 + (x2 % 64) * 64 + x3 % 64)) = true
    · rw [if_pos h4] at h
      simp at h
    · rw [if_neg h4]
  · rw [if_neg h3, if_neg (show ¬ (x0 / 8 == 30 && b1 && b2 && false) = true by simp)]
theorem dcf_cut2 (x0 x1 x2 x3 y2 y3 : Nat) (b1 b2 b3 : Bool) (h : (dcf x0 x1 x2 x3 b1 b2 b3).2 ≤ 2) : dcf x0 x1 y2 y3 b1 false false = dcf x0 x1 x2 x3 b1 b2 b3 := by
  have e := dcf_cut3 x0 x1 x2 x3 y3 b1 b2 b3 (by omega)
  rw [← e] at h ⊢
  clear e
  unfold dcf at h ⊢
  by_cases h0 : x0 < 128
  · rw [if_pos h0, if_pos h0]
  rw [if_neg h0] at h ⊢
  rw [if_neg h0]
  by_cases h1 : (x0 / 32 == 6 && b1) = true
  · rw [if_pos h1, if_pos h1]
  rw [if_neg h1] at h ⊢
  rw [if_neg h1]
  rw [if_neg (show ¬ (x0 / 8 == 30 && b1 && false && false) = true by simp), if_neg (show ¬ (x0 / 16 == 14 && b1 && false) = true by simp)]
  by_cases h2 : (x0 / 16 == 14 && b1 && b2) = true
  · rw [if_pos h2] at h ⊢
    by_cases h4 : (decide ((x0 % 16) * 4096 + (x1 % 64) * 64 + x2 % 64 ≥ 2048) && Utf8.valid ((x0 % 16) * 4096 + (x1 % 64) * 64 + x2 % 64)) = true
    · rw [if_pos h4] at h
      simp at h
    · rw [if_neg h4]
  · rw [if_neg h2, if_neg (show ¬ (x0 / 8 == 30 && b1 && b2 && false) = true by simp)]
theorem dcf_cut1 (x0 x1 x2 x3 y1 y2 y3 : Nat) (b1 b2 b3 : Bool) (h : (dcf x0 x1 x2 x3 b1 b2 b3).2 ≤ 1) : dcf x0 y1 y2 y3 false false false = dcf x0 x1 x2 x3 b1 b2 b3 := by
  have e := dcf_cut2 x0 x1 x2 x3 y2 y3 b1 b2 b3 (by omega)
  rw [← e] at h ⊢
  clear e
  unfold dcf at h ⊢
  by_cases h0 : x0 < 128
  · rw [if_pos h0, if_pos h0]
  rw [if_neg h0] at h ⊢
  rw [if_neg h0]
  rw [if_neg (show ¬ (x0 / 8 == 30 && false && false && false) = true by simp), if_neg (show ¬ (x0 / 16 == 14 && false && false) = true by simp), if_neg (show ¬ (x0 / 32 == 6 && false) = true by simp)]
  by_cases h1 : (x0 / 32 == 6 && b1) = true
  · rw [if_pos h1] at h ⊢
    by_cases h4 : (x0 % 32) * 64 + x1 % 64 ≥ 128
    · rw [if_pos h4] at h
      simp at h
    · rw [if_neg h4]
  · rw [if_neg h1, if_neg (show ¬ (x0 / 16 == 14 && b1 && false) = true by simp), if_neg (show ¬ (x0 / 8 == 30 && b1 && false && false) = true by simp)]
theorem bt_take (l : List UInt8) {p k : Nat} (h : k < p) : bt (l.take p) k = bt l k := by
  simp [bt, List.getElem?_take, h]
theorem cont_take (l : List UInt8) {p k : Nat} (h : k < p) : cont (l.take p) k = cont l k := by
  have : (decide (k < (l.take p).length)) = decide (k < l.length) := by
    rw [List.length_take]; congr 1; apply propext; omega
  rw [cont, cont, bt_take l h, this]
theorem cont_take_no (l : List UInt8) {p k : Nat} (h : p ≤ k) : cont (l.take p) k = false := by
  have : (decide (k < (l.take p).length)) = false := by
    rw [List.length_take]; simp; omega
  rw [cont, this, Bool.false_and]
theorem dc_take (l : List UInt8) {p : Nat} (h : (dc l).2 ≤ p) : dc (l.take p) = dc l := by
  have hp := dc_pos l
  rw [dc_dcf] at h hp
  rw [dc_dcf, dc_dcf l, bt_take l (show 0 < p by omega)]
  rcases Nat.lt_or_ge p 4 with h4 | h4
  · rcases show p = 1 ∨ p = 2 ∨ p = 3 by omega with rfl | rfl | rfl
    · rw [cont_take_no l (show 1 ≤ 1 by omega), cont_take_no l (show 1 ≤ 2 by omega), cont_take_no l (show 1 ≤ 3 by omega)]
      exact dcf_cut1 _ _ _ _ _ _ _ _ _ _ h
    · rw [cont_take l (show 1 < 2 by omega), cont_take_no l (show 2 ≤ 2 by omega), cont_take_no l (show 2 ≤ 3 by omega), bt_take l (show 1 < 2 by omega)]
      exact dcf_cut2 _ _ _ _ _ _ _ _ _ h
    · rw [cont_take l (show 1 < 3 by omega), cont_take l (show 2 < 3 by omega), cont_take_no l (show 3 ≤ 3 by omega), bt_take l (show 1 < 3 by omega), bt_take l (show 2 < 3 by omega)]
      exact dcf_cut3 _ _ _ _ _ _ _ _ h
  · rw [cont_take l (show 1 < p by omega), cont_take l (show 2 < p by omega), cont_take l (show 3 < p by omega), bt_take l (show 1 < p by omega), bt_take l (show 2 < p by omega), bt_take l (show 3 < p by omega)]
theorem posAt_nil (j : Nat) : posAt [] j = 0 := by cases j <;> simp [posAt]
theorem posAt_take : ∀ (k : Nat) (l : List UInt8), k ≤ (runes l).length → (∀ j, posAt (l.take (posAt l k)) j = posAt l (min j k)) ∧ runes (l.take (posAt l k)) = (runes l).take k
  | 0, l, _ => by
    refine ⟨fun j => ?_, ?_⟩
    · simp [posAt, posAt_nil]
    · simp [posAt, runes_nil]
  | k + 1, l, h => by
    by_cases hl : l = []
    · subst hl; simp [runes_nil] at h
    · have hc := runes_cons l hl
      rw [hc] at h ⊢
      have hle := dc_le l hl
      have hp := dc_pos l
      obtain ⟨ih1, ih2⟩ := posAt_take k (l.drop (dc l).2) (by simpa using h)
      have hpos : posAt l (k + 1) = (dc l).2 + posAt (l.drop (dc l).2) k := by rw [posAt, if_neg hl]
      have hne : l.take (posAt l (k + 1)) ≠ [] := by
        intro e
        have := congrArg List.length e
        rw [List.length_take, hpos, List.length_nil] at this
        have := List.length_pos_iff.2 hl
        omega
      have hdc : dc (l.take (posAt l (k + 1))) = dc l := dc_take l (by rw [hpos]; omega)
      have hdr : (l.take (posAt l (k + 1))).drop (dc l).2 = (l.drop (dc l).2).take (posAt (l.drop (dc l).2) k) := by
        rw [hpos, List.drop_take]; congr 1; omega
      refine ⟨fun j => ?_, ?_⟩
      · cases j with
        | zero => simp [posAt]
        | succ j =>
          rw [posAt, if_neg hne, hdc, hdr, ih1 j, show min (j + 1) (k + 1) = min j k + 1 by omega, posAt, if_neg hl]
      · rw [runes_cons _ hne, hdc, hdr, ih2]; rfl
theorem posAt_all (l : List UInt8) : posAt l (runes l).length = l.length := by
  obtain ⟨h1, _, h3, h4⟩ := posAt_spec (runes l).length l (Nat.le_refl _)
  rcases Nat.lt_or_ge (posAt l (runes l).length) l.length with h | h
  · have := (h3 h).1; omega
  · omega
def euros : Nat → List UInt8
  | 0 => []
  | k + 1 => 226 :: 130 :: 172 :: euros k
theorem euros_snoc : ∀ k, euros k ++ [226, 130, 172] = euros (k + 1)
  | 0 => rfl
  | k + 1 => by rw [euros, List.cons_append, List.cons_append, List.cons_append, euros_snoc k]; rfl
theorem euros_length : ∀ k, (euros k).length = 3 * k
  | 0 => rfl
  | k + 1 => by simp [euros, euros_length k]; omega
theorem runes_euros : ∀ k, runes (euros k) = List.replicate k (8364, 3)
  | 0 => rfl
  | k + 1 => by
    have hdc : dc (euros (k + 1)) = (8364, 3) := by
      have h1 : cont (euros (k + 1)) 1 = true := by simp [cont, bt, euros]
      have h2 : cont (euros (k + 1)) 2 = true := by simp [cont, bt, euros]
      have e0 : bt (euros (k + 1)) 0 = 226 := rfl
      have e1 : bt (euros (k + 1)) 1 = 130 := rfl
      have e2 : bt (euros (k + 1)) 2 = 172 := rfl
      rw [dc, h1, h2, e0, e1, e2]
      simp [Utf8.valid]
    rw [runes_cons _ (by simp [euros]), hdc]
    have : (euros (k + 1)).drop 3 = euros k := rfl
    rw [this, runes_euros k, List.replicate_succ]
end Go.Proofs.Ytnnblddloabbjaa.Tx
