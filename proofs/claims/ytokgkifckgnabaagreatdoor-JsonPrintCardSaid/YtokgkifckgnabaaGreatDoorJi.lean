/- Get and Text of the document, over values in memory. Condition: small values. -/
import Derived.Test.YtokgkifckgnabaaGreatDoorJh
set_option linter.unusedVariables false
set_option linter.unusedSimpArgs false
set_option maxRecDepth 20000
namespace Go.Proofs.YtokgkifckgnabaaGreatDoor
open Go.RowKit
theorem getJ_none {k : Int} {b : Bool} {n : Int} {s : List UInt8} {names : List (List UInt8)} {kids : List Jv} {q : List UInt8} {i : Nat} (h : ∀ j p, j < i → names[j]? = some p → p ≠ q) (hx : names.length ≤ i ∨ kids.length ≤ i ∨ k ≠ 6) : getJ (.mk k b n s names kids) q = none := by
  by_cases h6 : k = 6
  case neg => exact if_neg h6
  rw [getJ, if_pos (show (Jv.mk k b n s names kids).kind = 6 from h6)]
  show (match names.findIdx? (· == q) with | some i => kids[i]? | none => none) = none
  cases hf : names.findIdx? (· == q) with
  | none => rfl
  | some m =>
    show kids[m]? = none
    rw [List.findIdx?_eq_some_iff_getElem] at hf
    obtain ⟨hlt, hp, _⟩ := hf
    have hmi : i ≤ m := by
      rcases Nat.lt_or_ge m i with h9 | h9
      · exact absurd (by simpa using hp) (h m _ h9 (List.getElem?_eq_getElem hlt))
      · exact h9
    rw [List.getElem?_eq_none]
    rcases hx with hx | hx | hx
    · omega
    · omega
    · exact absurd h6 hx
theorem getJ_some {b : Bool} {n : Int} {s : List UInt8} {names : List (List UInt8)} {kids : List Jv} {q : List UInt8} {i : Nat} {kd : Jv} (h : ∀ j p, j < i → names[j]? = some p → p ≠ q) (hq : names[i]? = some q) (hk : kids[i]? = some kd) : getJ (.mk 6 b n s names kids) q = some kd := by
  rw [getJ, if_pos (show (Jv.mk 6 b n s names kids).kind = 6 from rfl)]
  show (match names.findIdx? (· == q) with | some i => kids[i]? | none => none) = _
  rw [find_some h hq]
  exact hk
end Go.Proofs.YtokgkifckgnabaaGreatDoor
