/- countersignref10.Parse, walked to formE. No condition of its own. -/
import Derived.Test.YtolfcpbcccbmmaaDoorHj
set_option linter.unusedVariables false
set_option linter.unusedSimpArgs false
set_option maxRecDepth 20000
namespace Go.Proofs.YtolfcpbcccbmmaaDoor
open Go.RowKit Pc
end Go.Proofs.YtolfcpbcccbmmaaDoor
