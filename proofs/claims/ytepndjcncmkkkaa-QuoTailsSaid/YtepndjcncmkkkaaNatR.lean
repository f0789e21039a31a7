/- The contracts of package nat once more, over slices that lie in the world and over what they read as. At most 100000 limbs each. -/
import Derived.Test.YtepndjcncmkkkaaRd
import Derived.Test.YtepndjcncmkkkaaNatE
import Derived.Test.YtepndjcncmkkkaaNatF
import Derived.Test.YtepndjcncmkkkaaNatLong
namespace Go.Proofs.NR
open Go.RowKit
open Go.Proofs
open Go.Proofs.NP
open Go.Proofs.SL
set_option linter.unusedVariables false

/-- a number of at most i limbs -/
def Fits (m i : Nat) : Prop := m < 18446744073709551616 ^ i

theorem Fits.len {m i : Nat} (h : Fits m i) : (L m).length ≤ i := L_len _ _ h
theorem Fits.of {xs : List Nat} {i : Nat} (h : Ws xs) (hi : xs.length ≤ i) : Fits (V xs) i := Nat.lt_of_lt_of_le (V_lt h) (Nat.pow_le_pow_right (by decide) hi)
theorem Fits.mono {m n i : Nat} (h : Fits m i) (hn : n ≤ m) : Fits n i := Nat.lt_of_le_of_lt hn h
theorem Fits.sub {m i : Nat} (h : Fits m i) (n : Nat) : Fits (m - n) i := h.mono (Nat.sub_le _ _)
theorem Fits.div {m i : Nat} (h : Fits m i) (n : Nat) : Fits (m / n) i := h.mono (Nat.div_le_self _ _)
theorem Fits.mul {m n i j : Nat} (h : Fits m i) (h' : Fits n j) : Fits (m * n) (i + j) := by
  unfold Fits at *; rw [Nat.pow_add]; exact Nat.mul_lt_mul'' h h'
theorem Fits.add {m n i j : Nat} (h : Fits m i) (h' : Fits n j) : Fits (m + n) (i + j + 1) := by
  unfold Fits at *
  generalize hB : (18446744073709551616 : Nat) = B at *
  have hB' : 2 ≤ B := by omega
  have h1 : B ^ i ≤ B ^ (i + j) := Nat.pow_le_pow_right (by omega) (by omega)
  have h2 : B ^ j ≤ B ^ (i + j) := Nat.pow_le_pow_right (by omega) (by omega)
  have h3 : B ^ (i + j) * 2 ≤ B ^ (i + j) * B := Nat.mul_le_mul_left _ hB'
  rw [Nat.pow_succ]; omega
theorem Fits.shl {m i : Nat} (h : Fits m i) (k : Nat) : Fits (m * 2 ^ k) (i + k) := by
  unfold Fits at *
  rw [Nat.pow_add]
  have : 2 ^ k ≤ 18446744073709551616 ^ k := Nat.pow_le_pow_left (by decide) k
  exact Nat.lt_of_lt_of_le (Nat.mul_lt_mul_of_pos_right h (Nat.two_pow_pos k)) (Nat.mul_le_mul_left _ this)
/-- the limbs that a number is told by -/
theorem L_of {xs : List Nat} {m : Nat} (h : (xs.all fun x => decide (x < 18446744073709551616)) = true) (hl : (xs.isEmpty || xs.getLast? != some 0) = true) (hm : V xs = m) : xs = L m := by
  rw [← hm, L_V (ws_of xs h)]
  intro hne h0
  rw [List.getLast?_eq_some_getLast hne, h0] at hl
  cases xs with
  | nil => exact hne rfl
  | cons x xs => simp at hl

variable {w : World} {a b : Option Addr} {ca cb l k : Nat} {xs ys zs : List Nat}

/-- a call gives a new slice, beside the error 0 -/
def GivesE (e : TypeId) (w : World) (xs : List Nat) (en : Ending) (w' : World) : Prop :=
  ∃ a cap, en = .returned (.tuple #[.slice a xs.length cap, .int .i64 0]) ∧ Own e w.heap.size w' a cap xs ∧ Below w.heap.size w w'

/-- .. of length -/
theorem len_of {xs : List Nat} {m : Nat} (h : xs = L m) {i : Nat} (f : Fits m i) : xs.length ≤ i := by rw [h]; exact f.len

theorem trim (hx : Rd w a ca xs) (lx : xs.length = l) (h : l ≤ 100000) (hz : zs = L (V xs)) : Calls Try.prog 24 #[.slice a l ca] w (Gives 36 w zs) := by
  subst lx hz; exact NT.trim _ a ca xs w hx.sl (Nat.le_refl _) (by omega)
theorem of (n : Nat) (w : World) (hn : n < 18446744073709551616) : Calls Try.prog 34 #[.int .u64 (n : Int)] w (Gives 36 w (L n)) := NT.of n w hn
theorem len (hx : Rd w a ca xs) (lx : xs.length = l) (h : l ≤ 100000) (z : Nat) (hz : z = bitLen (V xs)) : Calls Try.prog 43 #[.slice a l ca] w fun e w' => e = .returned (.int .i64 (z : Nat)) ∧ w = w' := by
  subst lx hz; exact NT.len_any _ a ca xs w hx.sl (by omega)
theorem zero (hx : Rd w a ca xs) (lx : xs.length = l) (h : l ≤ 100000) (z : Bool) (hz : z = (V xs == 0)) : Calls Try.prog 25 #[.slice a l ca] w fun e w' => e = .returned (.bool z) ∧ w = w' := by
  subst lx hz; exact NT.zero_any _ a ca xs w hx.sl (by omega)
theorem cmp (hx : Rd w a ca xs) (hy : Rd w b cb ys) (lx : xs.length = l) (ly : ys.length = k) (h : l ≤ 100000) (h' : k ≤ 100000) (z : Int) (hz : z = NT.cmpI (V xs) (V ys)) :
    Calls Try.prog 26 #[.slice a l ca, .slice b k cb] w fun e w' => e = .returned (.int .i64 z) ∧ w = w' := by
  subst lx ly hz; exact NT.cmp _ a b ca cb xs ys w hx.sl hy.sl (by omega) (by omega)
theorem add (hx : Rd w a ca xs) (hy : Rd w b cb ys) (lx : xs.length = l) (ly : ys.length = k) (h : l ≤ 100000) (h' : k ≤ 100000) (hz : zs = L (V xs + V ys)) :
    Calls Try.prog 27 #[.slice a l ca, .slice b k cb] w (Gives 36 w zs) := by
  subst lx ly hz; exact NT.add _ a b ca cb xs ys w hx.sl hy.sl (Nat.le_refl _) (by omega) (by omega)
theorem mul (hx : Rd w a ca xs) (hy : Rd w b cb ys) (lx : xs.length = l) (ly : ys.length = k) (h : l ≤ 100000) (h' : k ≤ 100000) (hz : zs = L (V xs * V ys)) :
    Calls Try.prog 22 #[.slice a l ca, .slice b k cb] w (Gives 36 w zs) := by
  subst lx ly hz; exact NT.mul _ a b ca cb xs ys w hx.sl hy.sl (Nat.le_refl _) (by omega) (by omega)
theorem shl_ok (hx : Rd w a ca xs) (lx : xs.length = l) (h : l ≤ 100000) (i : Nat) (hi : i ≤ 65536) (hz : zs = L (V xs * 2 ^ i)) : Calls Try.prog 23 #[.slice a l ca, .int .i64 (i : Int)] w (GivesE 36 w zs) := by
  subst lx hz; exact NT.shl_ok _ a ca xs i w hx.sl (Nat.le_refl _) (by omega) hi
theorem shr_ok (hx : Rd w a ca xs) (lx : xs.length = l) (h : l ≤ 100000) (i : Nat) (hi : i ≤ 65536) (hz : zs = L (V xs / 2 ^ i)) : Calls Try.prog 39 #[.slice a l ca, .int .i64 (i : Int)] w (GivesE 36 w zs) := by
  subst lx hz; exact NT.shr_ok _ a ca xs i w hx.sl (Nat.le_refl _) (by omega) hi
end Go.Proofs.NR
