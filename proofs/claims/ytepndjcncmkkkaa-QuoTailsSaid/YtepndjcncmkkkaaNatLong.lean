/- The contract of tombolalaw02.Long: whether one of the slices has more than 24 limbs. -/
import Derived.Test.YtepndjcncmkkkaaNatD
namespace Go.Proofs.NT
open Go.RowKit
open Go.Proofs
open Go.Proofs.NP
open Go.Proofs.SL
set_option linter.unusedVariables false

/-- are there more limbs than a statement goes over? -/
def tooLong (ls : List (Option Addr × Nat × Nat)) : Bool := ls.any fun l => decide (24 < l.2.1)

end Go.Proofs.NT
