/- Strings of bits: 0s. -/
import Derived.Test.YticickjnlkbkoaaGreatBitsB
namespace Go.Proofs.BT
open Go.RowKit
open Go.Proofs
open Go
set_option linter.unusedVariables false
set_option linter.unusedSimpArgs false
/-- so many of a byte -/
def rep (b : UInt8) (n : Nat) : ByteArray := ⟨(List.replicate n b).toArray⟩
theorem rep_size (b : UInt8) (n : Nat) : (rep b n).size = n := by simp [rep, ByteArray.size]
theorem rep_succ (b : UInt8) (n : Nat) : rep b n ++ ⟨#[b]⟩ = rep b (n + 1) := by
  apply ByteArray.ext
  rw [ByteArray.data_append]
  simp only [rep]
  rw [List.replicate_succ']
  apply Array.ext'
  simp
end Go.Proofs.BT
