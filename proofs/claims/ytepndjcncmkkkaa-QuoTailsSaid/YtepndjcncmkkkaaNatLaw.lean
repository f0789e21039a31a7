/- What each law of layer 2 asks first: are its arguments short? .. and some facts on its numbers. -/
import Derived.Test.YtepndjcncmkkkaaNatAwake
import Derived.OpenShut
namespace Go.Proofs.LN
open Go.RowKit
open Go.Proofs
open Go.Proofs.NP
open Go.Proofs.SL
open Go.Proofs.NR
set_option linter.unusedVariables false

variable {w : World} {a b c : Option Addr} {ca cb cc l k j g : Nat} {e : TypeId}
/-- a row that came in reads some limbs -/
theorem rows {zs : List Int}
    (h : (a = none ∧ l = 0 ∧ ca = 0 ∧ zs = []) ∨ ∃ x, a = some x ∧ l ≤ ca ∧ ca ≤ maxLen ∧ zs.length = ca ∧ (∀ i, i < zs.length → w.cell? (x.add i) = some (.int .u64 (zs.getD i 0))) ∧ ∀ n ∈ zs, (Lit.int .u64 n).wf = true) :
    ∃ xs : List Nat, xs.length = l ∧ Rd w a ca xs := Rd.of_row h fun n hn => bounds_u64 hn
theorem bit_back_ge (X n k : Nat) (h : n ≤ k) : X / 2 ^ n * 2 ^ n / 2 ^ k = X / 2 ^ k := by
  have : 2 ^ k = 2 ^ n * 2 ^ (k - n) := by rw [← Nat.pow_add]; congr 1; omega
  rw [this, ← Nat.div_div_eq_div_mul, Nat.mul_div_cancel _ (Nat.two_pow_pos n), Nat.div_div_eq_div_mul]
theorem bit_up_lt (Q n k : Nat) (h : k < n) : Q * 2 ^ n / 2 ^ k % 2 = 0 := by
  have : 2 ^ n = 2 ^ (n - k - 1) * 2 * 2 ^ k := by rw [← Nat.pow_succ, ← Nat.pow_add]; congr 1; omega
  rw [this, ← Nat.mul_assoc, Nat.mul_div_cancel _ (Nat.two_pow_pos k), ← Nat.mul_assoc]
  omega
theorem bit_up (X n k : Nat) : X * 2 ^ n / 2 ^ (k + n) = X / 2 ^ k := by
  rw [Nat.pow_add, Nat.mul_comm (2 ^ k), ← Nat.div_div_eq_div_mul, Nat.mul_div_cancel _ (Nat.two_pow_pos n)]
theorem bit_down (X n k : Nat) : X / 2 ^ n / 2 ^ k = X / 2 ^ (k + n) := by
  rw [Nat.div_div_eq_div_mul, ← Nat.pow_add, Nat.add_comm]
theorem bitLen_up (X n : Nat) (h : X ≠ 0) : bitLen (X * 2 ^ n) = bitLen X + n := by
  have h0 := bitLen_pos X h
  obtain ⟨j, hj⟩ : ∃ j, bitLen X = j + 1 := ⟨bitLen X - 1, by omega⟩
  have h1 : X < 2 ^ (j + 1) := (bitLen_le_iff X _).1 (by omega)
  have h2 : 2 ^ j ≤ X := by
    have : ¬ X < 2 ^ j := by rw [← bitLen_le_iff]; omega
    omega
  rw [hj, bitLen_unique (X * 2 ^ n) (j + n)]
  · omega
  · rw [Nat.pow_add]; exact Nat.mul_le_mul_right _ h2
  · rw [show j + n + 1 = (j + 1) + n by omega, Nat.pow_add (2) (j + 1)]; exact Nat.mul_lt_mul_of_pos_right h1 (Nat.two_pow_pos n)
theorem bitLen_fits {X i : Nat} (h : Fits X i) : bitLen X ≤ 64 * i := by
  rw [bitLen_le_iff, Nat.pow_mul]; exact h
theorem V_nil : V [] = 0 := rfl
theorem V_one : V [1] = 1 := by decide +kernel
end Go.Proofs.LN
