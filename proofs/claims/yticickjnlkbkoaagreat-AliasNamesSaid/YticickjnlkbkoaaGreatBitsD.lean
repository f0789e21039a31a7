/- Strings of bits: the document's Clear, Down. -/
import Derived.Test.YticickjnlkbkoaaGreatBitsC
namespace Go.Proofs.BT
open Go.RowKit
open Go.Proofs
open Go
set_option linter.unusedVariables false
set_option linter.unusedSimpArgs false
/-- a text with 0s for a part -/
def clearB (s : ByteArray) (a k : Nat) : ByteArray := s.extract 0 a ++ rep 48 k ++ s.extract (a + k) s.size
/-- a text with a 0 for a 1, and 1s behind -/
def downB (s : ByteArray) (a : Nat) : ByteArray := s.extract 0 a ++ ⟨#[48]⟩ ++ rep 49 (s.size - a - 1)
theorem ext_size (s : ByteArray) (a : Nat) (h : a ≤ s.size) : (s.extract 0 a).size = a := by simp [ByteArray.size_extract]; omega
end Go.Proofs.BT
