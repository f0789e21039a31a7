/- Strings of bits: the document's Next. -/
import Derived.Test.YticickjnlkbkoaaGreatBitsD
import Derived.IntWalk
namespace Go.Proofs.BT
open Go.RowKit
open Go.Proofs
open Go
set_option linter.unusedVariables false
set_option linter.unusedSimpArgs false
/-- a 0 at i becomes a 1, 0s behind -/
def upB (s : ByteArray) (i : Nat) : ByteArray := s.extract 0 i ++ ⟨#[49]⟩ ++ rep 48 (s.size - i - 1)
end Go.Proofs.BT
