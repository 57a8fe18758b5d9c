/- What is held through a region that draws its order may grow on the way. No condition of its own. -/
import Derived.Test.YtekpdkjkkglcjaaKp
set_option linter.unusedVariables false
set_option linter.unusedSimpArgs false
set_option maxRecDepth 20000
namespace Go.Proofs.Ytekpdkjkkglcjaa
open Go.RowKit
section
variable {P : Program} {ops : Array Oper} {Q : Exit → Act → World → Prop} {md : Region.Mode} {S S' : World → Prop}
theorem wpAnyH_grow (hS : ∀ W, S' W → S W) : ∀ (fuel : Nat) (listed : Array Bool) (a : Act) (w : World), wpAnyH P md ops Q S' fuel listed a w → wpAnyH P md ops Q S fuel listed a w
  | 0, _, _, _, h => h
  | fuel + 1, _, _, _, h => ⟨h.1, fun i hi => wpOp_mono (fun a' w' h' => ⟨hS w' h'.1, wpAnyH_grow hS fuel _ a' w' h'.2⟩) (h.2 i hi)⟩
end
theorem Keeps.then_ {W W1 : World} {P Q : World → Prop} (h : Keeps W P) (hb : Below W.heap.size W W1) (hq : Keeps W1 Q) : Keeps W1 (fun X => P X ∧ Q X) := h.next hb hq
end Go.Proofs.Ytekpdkjkkglcjaa
