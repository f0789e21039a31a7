/- Alias tables: the program's and the document's share, and cost, are told by the same numbers. -/
import Derived.Test.YticickjnlkbkoaaAltA
import Derived.Test.YticickjnlkbkoaaAltB
import Derived.Test.YticickjnlkbkoaaAltC
import Derived.Test.YticickjnlkbkoaaAliE
namespace Go.Proofs.AL
open Go.RowKit
open Go.Proofs
open Go.Proofs.NP
open Go.Proofs.SL
open Go.Proofs.RA
open Go.Proofs.BL
open Go.Proofs.NR (Fits)
open Go
set_option linter.unusedVariables false
set_option linter.unusedSimpArgs false
theorem both_share {n S k : Nat} {cu ot : Nat → Int} (hn : 1 ≤ n ∧ n ≤ 64) (hS : 1 ≤ S ∧ S ≤ 67108864) (hcu : ∀ k, k < n → 0 ≤ cu k ∧ cu k ≤ S) (hk : k < n) :
    ∃ us vs : List Nat, us.length ≤ 1 ∧ vs.length ≤ 1 ∧
      (∀ (W : World) (g gc go : Nat), Tb W g gc go n (S : Int) cu ot → Calls Try.prog 20 #[.pointer (some ⟨g, 0, none⟩), .int .i64 (k : Int)] W (GivesRat W us vs)) ∧
      (∀ (W : World) (g gc cc go co : Nat), Tr W g gc cc go co n (S : Int) cu ot → Calls Try.prog 21 #[.pointer (some ⟨g, 0, none⟩), .int .i64 (k : Int)] W (GivesR1 W us vs)) := by
  have hb := mny_bd (ot := ot) hcu (i := k) n (Nat.le_refl _)
  have hb2 : (n : Int) * (2 * (S : Int)) ≤ 64 * 134217728 := Int.mul_le_mul (by omega) (by omega) (by omega) (by omega)
  obtain ⟨M, hM⟩ : ∃ M : Nat, (M : Int) = mny S cu ot k n := ⟨(mny S cu ot k n).toNat, by omega⟩
  have hM2 : (M : Int) = shs S cu ot k n := by rw [hM, mny_eq, if_pos hk, shs_giv]
  have hQ : S * n ≤ 67108864 * 64 := Nat.mul_le_mul hS.2 hn.2
  refine ⟨L (M / Nat.gcd M (S * n)), L (S * n / Nat.gcd M (S * n)), ?_, ?_, fun W g gc go h => tshare S k M h hn hk hS hcu hM2 rfl rfl, fun W g gc cc go co h => rshare S k M h hn hk hS hcu hM rfl rfl⟩
  · exact L_len _ 1 (by have := Nat.div_le_self M (Nat.gcd M (S * n)); omega)
  · exact L_len _ 1 (by have := Nat.div_le_self (S * n) (Nat.gcd M (S * n)); omega)
theorem both_cost {n S : Nat} (hn : 1 ≤ n ∧ n ≤ 64) (hS : 1 ≤ S ∧ S ≤ 67108864) :
    ∃ ps qs : List Nat, ps.length ≤ 100000 ∧ qs.length ≤ 100000 ∧
      (∀ (W : World) (g gc go : Nat) (cu ot : Nat → Int), Tb W g gc go n (S : Int) cu ot → Calls Try.prog 16 #[.pointer (some ⟨g, 0, none⟩)] W (GivesR1 W ps qs)) ∧
      (∀ (W : World) (g gc cc go co : Nat) (cu ot : Nat → Int), Tr W g gc cc go co n (S : Int) cu ot → Calls Try.prog 17 #[.pointer (some ⟨g, 0, none⟩)] W (GivesR1 W ps qs)) := by
  obtain ⟨X, hX⟩ : ∃ X, X = cN n / Nat.gcd (cN n) n := ⟨_, rfl⟩
  obtain ⟨Y, hY⟩ : ∃ Y, Y = n / Nat.gcd (cN n) n := ⟨_, rfl⟩
  obtain ⟨X', hX'⟩ : ∃ X, X = cN S / Nat.gcd (cN S) S := ⟨_, rfl⟩
  obtain ⟨Y', hY'⟩ : ∃ Y, Y = S / Nat.gcd (cN S) S := ⟨_, rfl⟩
  have FX : Fits X 2 := by rw [hX]; exact (cN_fits n (by omega)).div _
  have FX' : Fits X' 2 := by rw [hX']; exact (cN_fits S (by omega)).div _
  have FY : Fits Y 1 := by
    show Y < 18446744073709551616 ^ 1
    have := Nat.div_le_self n (Nat.gcd (cN n) n)
    omega
  have FY' : Fits Y' 1 := by
    show Y' < 18446744073709551616 ^ 1
    have := Nat.div_le_self S (Nat.gcd (cN S) S)
    omega
  obtain ⟨N, hN⟩ : ∃ N, N = X / Nat.gcd X Y * (Y' / Nat.gcd X' Y') + X' / Nat.gcd X' Y' * (Y / Nat.gcd X Y) := ⟨_, rfl⟩
  obtain ⟨D, hD⟩ : ∃ D, D = Y / Nat.gcd X Y * (Y' / Nat.gcd X' Y') := ⟨_, rfl⟩
  have FN := Fits.add (Fits.mul (Fits.div FX (Nat.gcd X Y)) (Fits.div FY' (Nat.gcd X' Y'))) (Fits.mul (Fits.div FX' (Nat.gcd X' Y')) (Fits.div FY (Nat.gcd X Y)))
  have FD := Fits.mul (Fits.div FY (Nat.gcd X Y)) (Fits.div FY' (Nat.gcd X' Y'))
  rw [← hN] at FN
  rw [← hD] at FD
  refine ⟨L (N / Nat.gcd N D), L (D / Nat.gcd N D), Nat.le_trans (Fits.div FN _).len (by omega), Nat.le_trans (Fits.div FD _).len (by omega), fun W g gc go cu ot h => ?_, fun W g gc cc go co cu ot h => ?_⟩
  · exact tcost S h hn hS X Y X' Y' N D hX hY hX' hY' hN hD rfl rfl
  · exact rcost S h hn hS X Y X' Y' N D hX hY hX' hY' hN hD rfl rfl
end Go.Proofs.AL
