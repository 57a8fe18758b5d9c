import Derived.Test.YtolfcpbcccbmmaaDoorPb
import Derived.Deep.RegionHeld3
set_option linter.unusedVariables false
set_option linter.unusedSimpArgs false
set_option maxRecDepth 20000
namespace Go.Proofs.YtolfcpbcccbmmaaDoor
open Go.RowKit Pc
/-- what a reading gives: the text, and the errno -/
def decV (r : Option (List UInt8)) : Value := match r with
  | some b => .tuple #[.string ⟨b.toArray⟩, .int .i64 0]
  | none => .tuple #[.string ⟨#[]⟩, .int .i64 3]
theorem drop_head {l : List UInt8} {k : Nat} (h : k < l.length) : l.drop k = l.getD k 0 :: l.drop (k + 1) := by
  rw [List.drop_eq_getElem_cons h, List.getD_eq_getElem?_getD, List.getElem?_eq_getElem h, Option.getD_some]
theorem rdec_next {form : Bool} {l acc acc' : List UInt8} {k n : Nat} {c : UInt8} (h : rdecL form l = (rdecL form (l.drop k)).map (acc ++ ·)) (hk : k < l.length) (hr : rone form (l.drop k) = some (c, n)) (ha : acc' = acc ++ [c]) : rdecL form l = (rdecL form (l.drop (k + n))).map (acc' ++ ·) := by
  have hne : l.drop k ≠ [] := by
    intro e
    have := congrArg List.length e
    rw [List.length_drop, List.length_nil] at this
    omega
  rw [h, rdecL_step form _ hne, hr]
  simp only
  rw [List.drop_drop, Option.map_map, ha]
  congr 1
  funext x
  simp
theorem rdec_stop {form : Bool} {l acc : List UInt8} {k : Nat} (h : rdecL form l = (rdecL form (l.drop k)).map (acc ++ ·)) (hk : k < l.length) (hr : rone form (l.drop k) = none) : decL form l = none := by
  have hne : l.drop k ≠ [] := by
    intro e
    have := congrArg List.length e
    rw [List.length_drop, List.length_nil] at this
    omega
  rw [decL_ref, h, rdecL_step form _ hne, hr]
  rfl
theorem dgI_some {c x : Nat} (h : dg c = some x) : dgI c = x := by rw [dgI, h]
theorem dgI_none {c : Nat} (h : dg c = none) : dgI c = -1 := by rw [dgI, h]
end Go.Proofs.YtolfcpbcccbmmaaDoor
