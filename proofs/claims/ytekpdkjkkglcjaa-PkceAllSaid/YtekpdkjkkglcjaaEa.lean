/- The term that a tape tells, in plain words; it may be. No condition of its own. -/
import Derived.Test.YtekpdkjkkglcjaaDx
set_option linter.unusedVariables false
set_option linter.unusedSimpArgs false
set_option maxRecDepth 20000
namespace Go.Proofs.Ytekpdkjkkglcjaa
open Go.RowKit
def atoms9 : List ByteArray := [⟨#[]⟩, ⟨#[97]⟩, ⟨#[98]⟩, ⟨#[97, 98]⟩, ⟨#[0]⟩, ⟨#[126]⟩, ⟨#[97, 108, 105, 99, 101]⟩, ⟨#[99, 49]⟩, ⟨#[126, 65, 103, 65, 65, 65, 65, 69, 126]⟩]
def nums8 : List Int := [1, 2, 3, 4, 5, 0, 300, 1073741824]
def leafT (r : Int) (zs : List Int) (k : Nat) : Tm × Nat :=
  if r < 2 then (.mk 1 0 (atoms9.getD (nextR zs k 9).toNat ⟨#[]⟩) [], nextA zs k 9)
  else (.mk 2 (nums8.getD (nextR zs k 8).toNat 0) ⟨#[]⟩ [], nextA zs k 8)
def tapeT : Nat → List Int → Nat → Tm × Nat
  | 0, zs, k => leafT (nextR zs k 10 % 5) zs (nextA zs k 10)
  | d + 1, zs, k =>
    let r := nextR zs k 10
    let k1 := nextA zs k 10
    if r < 5 then leafT r zs k1
    else if r < 7 then
      let a := tapeT d zs k1
      (.mk (3 + (r - 5)) 0 ⟨#[]⟩ [a.1], a.2)
    else
      let a := tapeT d zs k1
      let b := tapeT d zs a.2
      (.mk (5 + (r - 7)) 0 ⟨#[]⟩ [a.1, b.1], b.2)
theorem atoms9_len {i : Nat} : (atoms9.getD i ⟨#[]⟩).size ≤ 9 := by
  rcases Nat.lt_or_ge i 9 with h | h
  · revert h; revert i; decide
  · rw [List.getD_eq_getElem?_getD, List.getElem?_eq_none (by exact h)]; exact Nat.zero_le _
theorem nums8_in (i : Nat) : 0 ≤ nums8.getD i 0 ∧ nums8.getD i 0 ≤ 1073741824 := by
  rcases Nat.lt_or_ge i 8 with h | h
  · revert h; revert i; decide
  · rw [List.getD_eq_getElem?_getD, List.getElem?_eq_none (by exact h)]; decide
theorem leaf_may (r : Int) (zs : List Int) (k : Nat) (deep : Int) (c : Nat) (hd : deep ≤ 16) (hc : c + 1 ≤ 64) : mayT (leafT r zs k).1 deep c = (true, c + 1) := by
  unfold leafT
  split
  · exact may_mk hc hd (right_atom (by have := @atoms9_len (nextR zs k 9).toNat; omega)) (by rw [mayK])
  · have h := nums8_in (nextR zs k 8).toNat
    obtain ⟨v, hv⟩ : ∃ v : Nat, nums8.getD (nextR zs k 8).toNat 0 = v := ⟨_, (Int.toNat_of_nonneg h.1).symm⟩
    rw [hv] at h ⊢
    exact may_mk hc hd (right_nonce (by omega)) (by rw [mayK])
theorem tape_may : ∀ (d : Nat) (zs : List Int) (k : Nat) (deep : Int) (c : Nat), deep + d ≤ 16 → c + 2 ^ (d + 1) ≤ 65 → ∃ c', mayT (tapeT d zs k).1 deep c = (true, c') ∧ c' < c + 2 ^ (d + 1)
  | 0, zs, k, deep, c, hd, hc => by
    rw [tapeT]
    exact ⟨c + 1, leaf_may _ _ _ _ _ (by omega) (by omega), by omega⟩
  | d + 1, zs, k, deep, c, hd, hc => by
    have h2 : 2 ^ (d + 1 + 1) = 2 * 2 ^ (d + 1) := by rw [Nat.pow_succ]; omega
    have hp : 0 < 2 ^ (d + 1) := Nat.pos_of_ne_zero (by simp)
    have hp2 : 2 ^ (d + 1) = 2 * 2 ^ d := by rw [Nat.pow_succ]; omega
    have hr := nextR_pos zs k 10 (by omega)
    rw [tapeT]
    simp only
    split
    · exact ⟨c + 1, leaf_may _ _ _ _ _ (by omega) (by omega), by omega⟩
    · split
      · obtain ⟨c1, h3, h4⟩ := tape_may d zs (nextA zs k 10) (deep + 1) (c + 1) (by omega) (by omega)
        refine ⟨c1, may_mk (by omega) (by omega) ?_ (by rw [mayK, h3]; simp only; rw [mayK]), by omega⟩
        have hrr : nextR zs k 10 = 5 ∨ nextR zs k 10 = 6 := by omega
        rcases hrr with h | h <;> rw [h] <;> exact right_more rfl
      · obtain ⟨c1, h3, h4⟩ := tape_may d zs (nextA zs k 10) (deep + 1) (c + 1) (by omega) (by omega)
        obtain ⟨c2, h5, h6⟩ := tape_may d zs (tapeT d zs (nextA zs k 10)).2 (deep + 1) c1 (by omega) (by omega)
        refine ⟨c2, may_mk (by omega) (by omega) ?_ (by rw [mayK, h3]; simp only; rw [mayK, h5]; simp only; rw [mayK]), by omega⟩
        have hrr : nextR zs k 10 = 7 ∨ nextR zs k 10 = 8 ∨ nextR zs k 10 = 9 := by omega
        rcases hrr with h | h | h <;> rw [h] <;> exact right_more rfl
/-- l1.One -/
def oneL (zs : List Int) : Tm := (tapeT 4 zs 0).1
theorem oneL_may (zs : List Int) : mayB (oneL zs) = true := by
  obtain ⟨c', h, _⟩ := tape_may 4 zs 0 1 0 (by omega) (by omega)
  rw [mayB, oneL, h]
end Go.Proofs.Ytekpdkjkkglcjaa
