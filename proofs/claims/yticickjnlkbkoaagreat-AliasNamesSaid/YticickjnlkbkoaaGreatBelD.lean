/- Below: the document's Take and Draw. -/
import Derived.Test.YticickjnlkbkoaaGreatBelC
namespace Go.Proofs.BL
open Go.RowKit
open Go.Proofs
open Go.Proofs.BT
open Go.Proofs.SL
open Go
set_option linter.unusedVariables false
set_option linter.unusedSimpArgs false
set_option maxRecDepth 20000
end Go.Proofs.BL
