/- Plain arithmetic of 16-bit digits of 64-bit limbs. No program in sight. -/
import Derived.Test.YtepndjcncmkkkaaNatMore
import Derived.Test.YtepndjcncmkkkaaSl
namespace Go.Proofs.RN
open Go.Proofs.NP
open Go.Proofs.SL
set_option linter.unusedVariables false

/-- a limb's first k digits of 16 bits -/
def lows : Nat → Nat → List Nat
  | 0, _ => []
  | k + 1, x => x % 65536 :: lows k (x / 65536)
/-- all limbs' digits -/
def spread : List Nat → List Nat
  | [] => []
  | x :: xs => lows 4 x ++ spread xs

theorem lows_length (k x : Nat) : (lows k x).length = k := by
  induction k generalizing x with
  | zero => rfl
  | succ k ih => simp [lows, ih]
theorem lows_dig (k x : Nat) : Dig 65536 (lows k x) := by
  induction k generalizing x with
  | zero => intro y hy; cases hy
  | succ k ih =>
    intro y hy
    rcases List.mem_cons.1 hy with h | h
    · subst h; exact Nat.mod_lt _ (by decide)
    · exact ih _ y h
theorem lows_succ (k x : Nat) : lows (k + 1) x = lows k x ++ [x / 65536 ^ k % 65536] := by
  induction k generalizing x with
  | zero => simp [lows]
  | succ k ih =>
    rw [lows, ih, lows, Nat.div_div_eq_div_mul, Nat.pow_succ, Nat.mul_comm 65536]
    rfl
theorem spread_append (xs ys : List Nat) : spread (xs ++ ys) = spread xs ++ spread ys := by
  induction xs with
  | nil => rfl
  | cons x xs ih => simp [spread, ih]
theorem spread_length (xs : List Nat) : (spread xs).length = 4 * xs.length := by
  induction xs with
  | nil => rfl
  | cons x xs ih => simp [spread, ih, lows_length]; omega
theorem spread_dig (xs : List Nat) : Dig 65536 (spread xs) := by
  induction xs with
  | nil => intro y hy; cases hy
  | cons x xs ih =>
    intro y hy
    rcases List.mem_append.1 hy with h | h
    · exact lows_dig 4 x y h
    · exact ih y h
theorem lows_val (x : Nat) (h : x < 18446744073709551616) (ys : List Nat) : val 65536 (lows 4 x ++ ys) = x + 18446744073709551616 * val 65536 ys := by
  simp only [lows, List.cons_append, List.nil_append, val]
  omega
theorem spread_val (xs : List Nat) (h : Ws xs) : val 65536 (spread xs) = V xs := by
  unfold V
  induction xs with
  | nil => rfl
  | cons x xs ih =>
    rw [spread, lows_val x (h x (by simp)), ih (fun y hy => h y (by simp [hy]))]
    rfl
/-- a number's digits are the first ones of any digits that read as it -/
theorem digs_take {xs : List Nat} (h : Dig 65536 xs) : ∃ n, n ≤ xs.length ∧ xs.take n = digs 65536 (val 65536 xs) := by
  have key : ∀ k, k ≤ xs.length → (∀ j, k ≤ j → xs[j]?.getD 0 = 0) → ∃ n, n ≤ xs.length ∧ xs.take n = digs 65536 (val 65536 xs) := by
    intro k
    induction k with
    | zero => intro hk hz; exact ⟨0, hk, trim_done 65536 (by decide) h 0 hk hz (.inl rfl)⟩
    | succ k ih =>
      intro hk hz
      by_cases h0 : xs[k]?.getD 0 = 0
      · refine ih (by omega) fun j hj => ?_
        rcases Nat.eq_or_lt_of_le hj with rfl | h'
        · exact h0
        · exact hz j h'
      · exact ⟨k + 1, hk, trim_done 65536 (by decide) h (k + 1) hk hz (.inr (by simpa using h0))⟩
  exact key xs.length (Nat.le_refl _) fun j hj => by simp [hj]
end Go.Proofs.RN
