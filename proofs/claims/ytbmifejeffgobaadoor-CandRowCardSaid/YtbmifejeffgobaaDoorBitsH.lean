/- Strings of bits: the document's Cmp. -/
import Derived.Test.YtbmifejeffgobaaDoorBitsB
import Derived.Lib.Bytealg
namespace Go.Proofs.BT
open Go.RowKit
open Go.Proofs
open Go
set_option linter.unusedVariables false
set_option linter.unusedSimpArgs false
/-- how two texts stand to each other -/
def cmpB (a b : ByteArray) : Int := if a.size < b.size then -1 else if b.size < a.size then 1 else Lib.compareBytes a.data.toList b.data.toList
theorem drop_cons (a : ByteArray) (i : Nat) (h : i < a.size) : a.data.toList.drop i = a[i] :: a.data.toList.drop (i + 1) := by
  rw [List.drop_eq_getElem_cons (by simpa using h)]; rfl
theorem cb_step {a b : ByteArray} {i : Nat} (ha : i < a.size) (hb : i < b.size) : Lib.compareBytes (a.data.toList.drop i) (b.data.toList.drop i) = if a[i] < b[i] then -1 else if b[i] < a[i] then 1 else Lib.compareBytes (a.data.toList.drop (i + 1)) (b.data.toList.drop (i + 1)) := by
  rw [drop_cons a i ha, drop_cons b i hb, Lib.compareBytes]
end Go.Proofs.BT
