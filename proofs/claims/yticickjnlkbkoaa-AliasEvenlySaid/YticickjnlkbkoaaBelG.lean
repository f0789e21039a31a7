/- Below: the cost of any number, by the program and by the document; widths. -/
import Derived.Test.YticickjnlkbkoaaBelF
namespace Go.Proofs.BL
open Go.RowKit
open Go.Proofs
open Go.Proofs.BT
open Go.Proofs.SL
open Go.Proofs.RA
open Go.Proofs.NR (Fits GivesE)
open Go
set_option linter.unusedVariables false
set_option linter.unusedSimpArgs false
set_option maxRecDepth 20000
/-- a fraction, and any error -/
def GivesRatE (w : World) (us vs : List Nat) (ec : Int) (e : Ending) (w' : World) : Prop :=
  ∃ p c q d, e = .returned (.tuple #[.agg #[.bool false, .slice p us.length c, .slice q vs.length d], .int .i64 ec]) ∧ Rd w' p c us ∧ Rd w' q d vs ∧ Kp w w'
theorem ratE_of {w : World} {us vs : List Nat} {e : Ending} {w' : World} (h : GivesRat w us vs e w') : GivesRatE w us vs 0 e w' := by
  obtain ⟨p, c, q, d, h1, h2, h3, h4⟩ := h
  exact ⟨p, c, q, d, h1, h2.rd, h3.rd, h4⟩
theorem ratE_no {w : World} {ec : Int} {e : Ending} {w' : World} (h : NoRat ec w e w') : GivesRatE w [] [] ec e w' := by
  obtain ⟨h1, h2⟩ := h
  exact ⟨none, 0, none, 0, h1, Rd.nil _, Rd.nil _, h2⟩
/-- the cost's two numbers -/
def cU (m : Nat) : List Nat := if m = 0 then [] else L (cN m / Nat.gcd (cN m) m)
def cV (m : Nat) : List Nat := if m = 0 then [] else L (m / Nat.gcd (cN m) m)
def cE (m : Nat) : Int := if m = 0 then 1 else 0
theorem cU_len (m : Nat) (hm : m < 18446744073709551616) : (cU m).length ≤ 2 := by
  unfold cU
  split
  · simp
  · exact ((cN_fits m hm).div _).len
theorem cV_len (m : Nat) (hm : m < 18446744073709551616) : (cV m).length ≤ 1 := by
  unfold cV
  split
  · simp
  · exact L_len _ 1 (by have := Nat.div_le_self m (Nat.gcd (cN m) m); omega)
theorem costA (m : Nat) (w : World) (hm : m < 18446744073709551616) {us vs : List Nat} {ec : Int} (hu : us = cU m) (hv : vs = cV m) (he : ec = cE m) : Calls Try.prog 42 #[.int .u64 (m : Int)] w (GivesRatE w us vs ec) := by
  subst hu hv he
  by_cases h0 : m = 0
  · subst h0
    exact (cost1_no w).mono fun e w' h => ratE_no h
  · rw [cU, cV, cE, if_neg h0, if_neg h0, if_neg h0]
    exact (cost1 m w hm h0 rfl rfl).mono fun e w' h => ratE_of h
theorem costB (m : Nat) (w : World) (hm : m < 18446744073709551616) {us vs : List Nat} {ec : Int} (hu : us = cU m) (hv : vs = cV m) (he : ec = cE m) : Calls Try.prog 44 #[.int .u64 (m : Int)] w (GivesRatE w us vs ec) := by
  subst hu hv he
  by_cases h0 : m = 0
  · subst h0
    exact (cost2_no w).mono fun e w' h => ratE_no h
  · rw [cU, cV, cE, if_neg h0, if_neg h0, if_neg h0]
    exact (cost2 m w hm h0 rfl rfl).mono fun e w' h => ratE_of h
end Go.Proofs.BL
