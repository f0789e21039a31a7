/- Strings of bits: a part at a place. -/
import Derived.Test.YticickjnlkbkoaaGreatBitsA
namespace Go.Proofs.BT
open Go.RowKit
open Go.Proofs
open Go
set_option linter.unusedVariables false
set_option linter.unusedSimpArgs false
theorem ret_bool {a b : Bool} (h : a = b) : Ending.returned (.bool a) = .returned (.bool b) := by rw [h]
theorem ret_int {k : IntKind} {a b : Int} (h : a = b) : Ending.returned (.int k a) = .returned (.int k b) := by rw [h]
/-- has a text of n bytes a part of so many at a place? -/
def partB (n : Nat) (at' k : Int) : Bool := decide (1 ≤ k ∧ k ≤ n ∧ 0 ≤ at' ∧ at' ≤ n - k)
/-- a text without a part -/
def cutB (s : ByteArray) (a k : Nat) : ByteArray := s.extract 0 a ++ s.extract (a + k) s.size
/-- refused -/
def cutE (s : ByteArray) (a k : Int) : Int := if isB s = false then 3 else if partB s.size a k = true then 0 else 1
end Go.Proofs.BT
