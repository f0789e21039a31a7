/- Alias tables: plain: by how many pairs a place is picked; its share. -/
import Derived.Test.YticickjnlkbkoaaAliF
import Derived.Test.YticickjnlkbkoaaAliM
namespace Go.Proofs.AL
open Go.RowKit
open Go.Proofs
open Go
set_option linter.unusedVariables false
set_option linter.unusedSimpArgs false
/-- by how many pairs a place is picked, of the first so many columns, one behind the other -/
def mny (s : Int) (cu ot : Nat → Int) (i : Nat) : Nat → Int
  | 0 => 0
  | k + 1 => mny s cu ot i k + (if k = i then cu k else 0) + (if ot k = i then s - cu k else 0)
theorem mny_eq (s : Int) (cu ot : Nat → Int) (i : Nat) : ∀ k, mny s cu ot i k = (if i < k then cu i else 0) + giv s cu ot i k
  | 0 => by simp [mny, giv]
  | k + 1 => by
    rw [mny, giv, mny_eq s cu ot i k]
    by_cases e : k = i
    · subst e
      rw [if_neg (Nat.lt_irrefl _), if_pos rfl, if_pos (Nat.lt_succ_self _)]
      omega
    · rw [if_neg e]
      by_cases h : i < k
      · have h2 : i < k + 1 := by omega
        rw [if_pos h, if_pos h2]; omega
      · have h2 : ¬ i < k + 1 := by omega
        rw [if_neg h, if_neg h2]; omega
theorem mny_bd {s : Int} {cu ot : Nat → Int} {n : Nat} (h : ∀ k, k < n → 0 ≤ cu k ∧ cu k ≤ s) {i : Nat} : ∀ k, k ≤ n → 0 ≤ mny s cu ot i k ∧ mny s cu ot i k ≤ k * (2 * s)
  | 0, _ => by simp [mny]
  | k + 1, hk => by
    have h1 := mny_bd (ot := ot) h (i := i) k (by omega)
    have h2 := h k (by omega)
    have e : ((k + 1 : Nat) : Int) * (2 * s) = k * (2 * s) + 2 * s := by rw [Int.natCast_add, Int.add_mul]; simp
    rw [mny, e]
    split <;> split <;> omega
theorem shs_giv (s : Int) (cu ot : Nat → Int) (i : Nat) : ∀ k, shs s cu ot i k = cu i + giv s cu ot i k
  | 0 => by simp [shs, giv]
  | k + 1 => by rw [shs, giv, shs_giv s cu ot i k]; omega
/-- a share is a weight's -/
theorem share_gcd {n x S : Nat} (hn : 0 < n) : n * x / Nat.gcd (n * x) (S * n) = x / Nat.gcd x S ∧ S * n / Nat.gcd (n * x) (S * n) = S / Nat.gcd x S := by
  rw [Nat.mul_comm S n, Nat.gcd_mul_left]
  exact ⟨Nat.mul_div_mul_left _ _ hn, Nat.mul_div_mul_left _ _ hn⟩
end Go.Proofs.AL
