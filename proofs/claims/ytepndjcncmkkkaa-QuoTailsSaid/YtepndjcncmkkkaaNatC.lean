/- Contracts of package nat. Every slice is read as a list of words below 2^64, at most a million of them. -/
import Derived.Test.YtepndjcncmkkkaaNatB
namespace Go.Proofs.NT
open Go.RowKit
open Go.Proofs
open Go.Proofs.NP
open Go.Proofs.SL
set_option linter.unusedVariables false

theorem bit_arith (x r : Nat) (hx : x < 18446744073709551616) : (bits BinOp.and IntKind.u64 ((x : Int) / 2 ^ r) 1 == 1) = (x / 2 ^ r % 2 == 1) := by
  have hle : x / 2 ^ r ≤ x := Nat.div_le_self _ _
  have h := bits_and_u64_nat (x / 2 ^ r) 1 (by omega) (by decide)
  rw [W.pow_cast, ← Int.natCast_ediv]
  rw [show ((1 : Nat) : Int) = 1 from rfl] at h
  rw [h, Nat.and_one_is_mod]
  rcases Nat.mod_two_eq_zero_or_one (x / 2 ^ r) with h | h <;> rw [h] <;> rfl

theorem bit_V (xs : List Nat) (h : Ws xs) (n : Nat) : (bits BinOp.and IntKind.u64 ((lim xs ((n : Int) / 64) : Nat) / 2 ^ (n % 64)) 1 == 1) = (V xs / 2 ^ n % 2 == 1) := by
  rw [bit_arith _ _ (lim_lt xs h _), show ((n : Int) / 64) = ((n / 64 : Nat) : Int) by omega, lim_nat, V_dg h, bit_dg 18446744073709551616 64 _ _ _ (by decide) (by omega)]
  congr 4
  omega

end Go.Proofs.NT
