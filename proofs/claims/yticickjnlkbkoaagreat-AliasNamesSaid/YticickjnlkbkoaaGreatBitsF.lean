/- Strings of bits: the number of one. -/
import Derived.Test.YticickjnlkbkoaaGreatBitsE
namespace Go.Proofs.BT
open Go.RowKit
open Go.Proofs
open Go
set_option linter.unusedVariables false
set_option linter.unusedSimpArgs false
/-- the number that the first ones of a text's bits are -/
def numB (s : ByteArray) : Nat → Nat
  | 0 => 0
  | i + 1 => 2 * numB s i + (if h : i < s.size then (if s[i] = 49 then 1 else 0) else 0)
theorem numB_lt (s : ByteArray) : ∀ i, numB s i < 2 ^ i
  | 0 => by simp [numB]
  | i + 1 => by
    have := numB_lt s i
    rw [numB, Nat.pow_succ]
    split
    · split <;> omega
    · omega
theorem numB_63 (s : ByteArray) (i : Nat) (h : i ≤ 63) : numB s i < 9223372036854775808 := by
  have h1 := numB_lt s i
  have h2 : 2 ^ i ≤ 2 ^ 63 := Nat.pow_le_pow_right (by decide) h
  omega
theorem bits_all {s : ByteArray} (h : bits s = true) (j : Nat) (hj : j < s.size) : bit1 s[j] = true := by
  unfold bits at h
  rw [List.all_eq_true] at h
  exact h _ (by have : s[j] = s.data.toList[j]'(by simpa using hj) := rfl; rw [this]; exact List.getElem_mem _)
/-- one bit more -/
theorem numB_next {s : ByteArray} (h : bits s = true) (i : Nat) (hi : i < s.size) : (((s[i].toNat : Nat) : Int) = 48 ∧ numB s (i + 1) = 2 * numB s i) ∨ (((s[i].toNat : Nat) : Int) = 49 ∧ numB s (i + 1) = 2 * numB s i + 1) := by
  have hb := bits_all h i hi
  rcases bit1_cases s[i] with ⟨h1, _⟩ | ⟨h1, _⟩ | ⟨_, h2⟩
  · left; refine ⟨h1, ?_⟩
    have : s[i] ≠ 49 := by intro e; rw [e] at h1; exact absurd h1 (by decide)
    rw [numB, dif_pos hi, if_neg this, Nat.add_zero]
  · right; refine ⟨h1, ?_⟩
    have : s[i] = 49 := UInt8.toNat_inj.1 (by have : (49 : UInt8).toNat = 49 := rfl; omega)
    rw [numB, dif_pos hi, if_pos this]
  · rw [hb] at h2; cases h2
theorem isB_bits {s : ByteArray} (h : isB s = true) : bits s = true := by unfold isB at h; simp at h; exact h.2
end Go.Proofs.BT
