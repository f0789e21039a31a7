/- Below: what BelowNames asks: widths at the ends of each length, draws by ones. -/
import Derived.Test.YtelanfafgcnpmaaBelG
import Derived.Test.YtelanfafgcnpmaaRatN
namespace Go.Proofs.BL
open Go.RowKit
open Go.Proofs
open Go.Proofs.NP
open Go.Proofs.BT
open Go.Proofs.SL
open Go.Proofs.RA
open Go
set_option linter.unusedVariables false
set_option linter.unusedSimpArgs false
theorem wid_of {m n : Nat} (h1 : m ≤ 2 ^ n) (h2 : n = 0 ∨ 2 ^ (n - 1) < m) : wid m = n := by
  unfold wid
  refine Nat.le_antisymm ((bitLen_le_iff _ _).2 ?_) ?_
  · have := Nat.two_pow_pos n; omega
  · rcases h2 with h | h
    · omega
    · refine Nat.le_of_not_lt (fun hlt => ?_)
      have h3 := (bitLen_le_iff (m - 1) (n - 1)).1 (by omega)
      omega
theorem wid_a (n : Nat) (h : 1 ≤ n) : wid (2 ^ n) = n := wid_of (Nat.le_refl _) (.inr (Nat.pow_lt_pow_right (by decide) (by omega)))
theorem wid_b (n : Nat) (h : 1 ≤ n) : wid (2 ^ n + 1) = n + 1 := by
  refine wid_of ?_ (.inr ?_)
  · rw [Nat.pow_succ]; have := Nat.two_pow_pos n; omega
  · rw [Nat.add_sub_cancel]; omega
theorem wid_c (n : Nat) (h : 2 ≤ n) : wid (2 ^ n - 1) = n := by
  obtain ⟨k, rfl⟩ : ∃ k, n = k + 2 := ⟨n - 2, by omega⟩
  have h0 := Nat.two_pow_pos k
  have h1 : 2 ^ (k + 2) = 4 * 2 ^ k := by rw [Nat.pow_add]; omega
  have h2 : 2 ^ (k + 2 - 1) = 2 * 2 ^ k := by rw [show k + 2 - 1 = k + 1 by omega, Nat.pow_succ]; omega
  exact wid_of (by omega) (.inr (by omega))
theorem cost_pow (n : Nat) (h : 1 ≤ n) : cN (2 ^ n) / Nat.gcd (cN (2 ^ n)) (2 ^ n) = n ∧ 2 ^ n / Nat.gcd (cN (2 ^ n)) (2 ^ n) = 1 := by
  have e : cN (2 ^ n) = n * 2 ^ n := by rw [cN, wid_a n h]
  have g : Nat.gcd (n * 2 ^ n) (2 ^ n) = 2 ^ n := Nat.gcd_eq_right (Nat.dvd_mul_left _ _)
  rw [e, g]
  exact ⟨Nat.mul_div_cancel _ (Nat.two_pow_pos n), Nat.div_self (Nat.two_pow_pos n)⟩
theorem costP (n : Nat) (w : World) (h : 1 ≤ n) (hn : n < 64) {us vs : List Nat} (hu : us = L n) (hv : vs = [1]) : Calls Try.prog 11 #[.int .u64 ((2 ^ n : Nat) : Int)] w (GivesRat w us vs) := by
  have h2 : (2 : Nat) ^ n ≤ 2 ^ 63 := Nat.pow_le_pow_right (by decide) (by omega)
  have h3 := Nat.two_pow_pos n
  refine cost1 (2 ^ n) w (by omega) (by omega) ?_ ?_
  · rw [hu, (cost_pow n h).1]
  · rw [hv, (cost_pow n h).2, L1]
/-- ones alone -/
theorem bitA_rep (n i : Nat) (h : i < n) : bitA (rep 49 n) i = 1 := by
  have hs : i < (rep 49 n).size := by rw [rep_size]; exact h
  have e : (rep 49 n)[i] = 49 := by
    show (rep 49 n).data[i] = 49
    simp [rep]
  rw [bitA, dif_pos hs, e]; rfl
theorem numA_rep (n a : Nat) : ∀ k, a + k ≤ n → numA (rep 49 n) a k = 2 ^ k - 1
  | 0, _ => rfl
  | k + 1, h => by
    rw [numA, numA_rep n a k (by omega), bitA_rep n (a + k) (by omega), Nat.pow_succ]
    have := Nat.two_pow_pos k
    omega
theorem drw_ones {n m b : Nat} (hb : wid m = b) (h1 : m ≤ 2 ^ b - 1) (h0 : 0 < b) : ∀ (j a f : Nat), a + b * j = n → j < f → drw (rep 49 n) m f a = ⟨0, false, n, true⟩
  | 0, a, f, ha, hf => by
    obtain ⟨f, rfl⟩ : ∃ g, f = g + 1 := ⟨f - 1, by omega⟩
    rw [Nat.mul_zero, Nat.add_zero] at ha
    rw [drw, rep_size, hb, if_pos (by omega), ha]
  | j + 1, a, f, ha, hf => by
    obtain ⟨f, rfl⟩ : ∃ g, f = g + 1 := ⟨f - 1, by omega⟩
    rw [Nat.mul_succ] at ha
    have hle : a + b ≤ n := by have := Nat.zero_le (b * j); omega
    rw [drw, rep_size, hb, if_neg (by omega), numA_rep n a b hle, if_neg (by omega)]
    exact drw_ones hb h1 h0 j (a + b) f (by omega) (by omega)
theorem ones_bits (n : Nat) : BT.bits (rep 49 n) = true := bits_of _ (fun j h => by
  have e : (rep 49 n)[j] = 49 := by
    show (rep 49 n).data[j] = 49
    simp [rep]
  rw [e]; rfl)
theorem ones_is (n : Nat) (hn : n ≤ 1024) : isB (rep 49 n) = true := isB_mk (ones_bits n) (by rw [rep_size]; exact hn)
theorem draw_3 : (⟨0, false, 1024, true⟩ : Dr) = draw (rep 49 1024) 3 0 false := by
  rw [draw, if_neg (by decide), rep_size]
  exact (drw_ones (b := 2) (by decide +kernel) (by decide) (by decide) 512 0 _ rfl (by decide)).symm
theorem draw_64 : (⟨0, false, 1024, true⟩ : Dr) = draw (rep 49 1024) 18446744073709551615 0 false := by
  rw [draw, if_neg (by decide), rep_size]
  exact (drw_ones (b := 64) (by decide +kernel) (by decide) (by decide) 16 0 _ rfl (by decide)).symm
theorem draw_end (s : ByteArray) (m a : Nat) : (⟨0, false, a, true⟩ : Dr) = draw s m a true := by rw [draw, if_pos (.inr rfl)]
end Go.Proofs.BL
