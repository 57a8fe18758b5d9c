/- The shelf's contracts of Go's library at this translation, numbers found by name (made by a program of ours). No condition of its own. -/
import Derived.Test.YtnhjgocdepbajaaGreatProg
set_option linter.unusedVariables false
namespace Go.Shelf
end Go.Shelf
namespace Go.Proofs
open Go.Shelf
end Go.Proofs
