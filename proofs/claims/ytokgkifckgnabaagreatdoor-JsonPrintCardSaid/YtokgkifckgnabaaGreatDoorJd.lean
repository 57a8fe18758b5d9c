/- JSON values: loads and stores of whole values. No condition of its own. -/
import Derived.Test.YtokgkifckgnabaaGreatDoorJa
import Derived.Laws.StructEq
import Derived.Deep.MidRow
set_option linter.unusedVariables false
set_option linter.unusedSimpArgs false
set_option maxRecDepth 20000
namespace Go.Proofs.YtokgkifckgnabaaGreatDoor
open Go.RowKit
theorem jv_size : (Tryz.prog.info? 27).map (·.size) = some 6 := by kernel_rfl
theorem info_jv : (Tryz.prog.info? 27).map (fun i => (i.zero, i.size, i.bytes)) = some (some (.agg (cells6 0 false 0 [] none 0 0 none 0 0).toArray), 6, 88) := by kernel_rfl
theorem cells6_ones (kind : Int) (b : Bool) (n : Int) (s : List UInt8) (NA : Option Addr) (nn nc : Nat) (A : Option Addr) (m c : Nat) : ∀ u ∈ cells6 kind b n s NA nn nc A m c, u.oneCell' = true := by
  intro u hu
  simp [cells6, strV] at hu
  rcases hu with rfl | rfl | rfl | rfl | rfl | rfl <;> rfl
end Go.Proofs.YtokgkifckgnabaaGreatDoor
