/- Strings of bits: a number as bits: the document's Of. -/
import Derived.Test.YtbmifejeffgobaaDoorBitsI
import Derived.Laws.IdiomStrings
namespace Go.Proofs.BT
open Go.RowKit
open Go.Proofs
open Go
set_option linter.unusedVariables false
set_option linter.unusedSimpArgs false

/-- what Of answers: the string, or that there is none -/
def ofPost (c : Bool) (z : ByteArray) (w : World) (e : Ending) (w' : World) : Prop := e = .returned (if c then .tuple #[.string z, .int .i64 0] else .tuple #[.string ⟨#[]⟩, .int .i64 1]) ∧ Below w.heap.size w w'
end Go.Proofs.BT
