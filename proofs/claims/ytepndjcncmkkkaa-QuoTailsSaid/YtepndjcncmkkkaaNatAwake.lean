/- The examples of layer 2, as the program asks them. -/
import Derived.Test.YtepndjcncmkkkaaNatR
namespace Go.Proofs.LN
open Go.RowKit
open Go.Proofs
open Go.Proofs.NP
open Go.Proofs.SL
open Go.Proofs.NR
set_option linter.unusedVariables false
end Go.Proofs.LN
