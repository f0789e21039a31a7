/- Strings of bits: the program's Number. -/
import Derived.Test.YticickjnlkbkoaaGreatBitsF
import Derived.Test.YticickjnlkbkoaaGreatMW
namespace Go.Proofs.BT
open Go.RowKit
open Go.Proofs
open Go
set_option linter.unusedVariables false
set_option linter.unusedSimpArgs false
theorem or0 (n : Nat) (h : n < 9223372036854775808) : Go.bits BinOp.or IntKind.u64 ((n : Int) * 2) (IntKind.u64.wrap (Go.bits BinOp.and IntKind.u8 48 1)) = ((2 * n : Nat) : Int) := by
  have e : IntKind.u64.wrap (Go.bits BinOp.and IntKind.u8 48 1) = ((0 : Nat) : Int) := by decide +kernel
  have j := W.u64_or_join n 0 1 (by decide) (by omega)
  rw [e, show (n : Int) * 2 = ((n * 2 ^ 1 : Nat) : Int) by simp, j]
  congr 1; omega
theorem or1 (n : Nat) (h : n < 9223372036854775808) : Go.bits BinOp.or IntKind.u64 ((n : Int) * 2) (IntKind.u64.wrap (Go.bits BinOp.and IntKind.u8 49 1)) = ((2 * n + 1 : Nat) : Int) := by
  have e : IntKind.u64.wrap (Go.bits BinOp.and IntKind.u8 49 1) = ((1 : Nat) : Int) := by decide +kernel
  have j := W.u64_or_join n 1 1 (by decide) (by omega)
  rw [e, show (n : Int) * 2 = ((n * 2 ^ 1 : Nat) : Int) by simp, j]
  congr 1; omega
end Go.Proofs.BT
