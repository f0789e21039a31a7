/- Plain facts of long division: what one round finds. -/
import Derived.Test.YtepndjcncmkkkaaQuoB
namespace Go.Proofs.QT
open Go.RowKit
open Go.Proofs
open Go.Proofs.NP
open Go.Proofs.SL
open Go.Proofs.QP
set_option linter.unusedVariables false
set_option linter.unusedSimpArgs false

theorem Ws_take {xs : List Nat} (h : Ws xs) (k : Nat) : V (xs.take k) < 18446744073709551616 ^ k := by
  refine Nat.lt_of_lt_of_le (V_lt (fun x hx => h x (List.mem_of_mem_take hx))) (Nat.pow_le_pow_right (by decide) (by simp; omega))

/-- the guess is not below the quotient -/
theorem qhat (ws ds : List Nat) (k : Nat) (hws : Ws ws) (hds : Ws ds) (lw : ws.length = k + 2) (ld : ds.length = k + 1) (t hi lo : Nat) (ht : t = ds[k]'(by omega)) (hh : hi = ws[k + 1]'(by omega)) (hl : lo = ws[k]'(by omega)) (h0 : 0 < t)
    (hP : V ws < V ds * 18446744073709551616) : V ws / V ds ≤ gs hi lo t := by
  subst ht hh hl
  unfold gs
  have e1 := V_take ws (k + 1) (by omega)
  have e2 := V_take ws k (by omega)
  have e3 := V_take ds k (by omega)
  rw [show ws.take (k + 1 + 1) = ws from List.take_of_length_le (by omega)] at e1
  rw [show ds.take (k + 1) = ds from List.take_of_length_le (by omega)] at e3
  have b1 := Ws_take hws k
  have hd : ds[k] * 18446744073709551616 ^ k ≤ V ds := by omega
  have hD : 0 < V ds := by
    have : 0 < ds[k] * 18446744073709551616 ^ k := Nat.mul_pos h0 (Nat.pow_pos (by decide))
    omega
  split
  · have : V ws / V ds < 18446744073709551616 := by rw [Nat.div_lt_iff_lt_mul hD, Nat.mul_comm]; exact hP
    omega
  · refine guess_ge _ _ _ _ _ (18446744073709551616 ^ k) h0 ?_ hd
    rw [e1, e2, Nat.add_mul, Nat.add_mul, Nat.one_mul, Nat.pow_succ, Nat.mul_assoc, Nat.mul_comm (18446744073709551616 ^ k)]
    omega

/-- taken just right -/
theorem took0 (W D q P : Nat) (hD : 0 < D) (h : W + D * q = P) (hq : P / D ≤ q) : q = P / D ∧ W = P % D := by
  have h1 : D * q ≤ P := by omega
  have h2 : q ≤ P / D := by rw [Nat.le_div_iff_mul_le hD, Nat.mul_comm]; exact h1
  have h3 : q = P / D := by omega
  refine ⟨h3, ?_⟩
  have := Nat.div_add_mod P D
  rw [← h3] at this; omega
/-- given back just so often -/
theorem back1 (W D q P : Nat) (hD : 0 < D) (h : W + D * q = P) (hlt : P < D * (q + 1)) : q = P / D ∧ W = P % D := by
  refine took0 W D q P hD h ?_
  have : P / D < q + 1 := by rw [Nat.div_lt_iff_lt_mul hD, Nat.mul_comm]; exact hlt
  omega

/-- the limbs that a shifted natural, 0s behind it, has -/
def pad (n m : Nat) : List Nat := L n ++ List.replicate (m - (L n).length) 0
theorem pad_len {n m : Nat} (h : (L n).length ≤ m) : (pad n m).length = m := by simp [pad]; omega
theorem val_zs (n : Nat) : V (List.replicate n 0) = 0 := by
  unfold V; exact val_zeros _ n
theorem pad_V (n m : Nat) : V (pad n m) = n := by
  unfold pad V
  rw [val_append]
  have : val 18446744073709551616 (List.replicate (m - (L n).length) 0) = 0 := val_zs _
  rw [this]; simp; exact V_L n
theorem pad_ws (n m : Nat) : Ws (pad n m) := (Ws_L n).append (Dig.zeros (by decide) _)
theorem V_drop_div {xs : List Nat} (h : Ws xs) (k : Nat) : V (xs.drop k) = V xs / 18446744073709551616 ^ k := by
  by_cases hk : k ≤ xs.length
  · have e := val_append 18446744073709551616 (xs.take k) (xs.drop k)
    rw [List.take_append_drop] at e
    have hl : (xs.take k).length = k := by simp; omega
    rw [hl] at e
    have hlt : val 18446744073709551616 (xs.take k) < 18446744073709551616 ^ k := Ws_take h k
    show val _ (xs.drop k) = val _ xs / _
    rw [e, Nat.add_mul_div_left _ _ (Nat.pow_pos (by decide)), Nat.div_eq_of_lt hlt]; omega
  · rw [List.drop_eq_nil_of_le (by omega), Nat.div_eq_of_lt]
    · rfl
    · exact Nat.lt_of_lt_of_le (V_lt h) (Nat.pow_le_pow_right (by decide) (by omega))

/-- so that the highest place of b is 1, it has as many limbs -/
theorem norm_len (y n t z : Nat) (hl : (L y).length = n + 1) (ht : t = (L y)[n]'(by omega)) (hz : z = 64 - bitLen t) : (L (y * 2 ^ z)).length = n + 1 := by
  have hb := (bitLen_le_iff t (bitLen t)).1 (Nat.le_refl _)
  have wt : t < 18446744073709551616 := by rw [ht]; exact Ws_L y _ (List.getElem_mem _)
  have hb64 : bitLen t ≤ 64 := (bitLen_le_iff t 64).2 (by simpa using wt)
  have e := V_take (L y) n (by omega)
  rw [show (L y).take (n + 1) = L y from List.take_of_length_le (by omega), V_L, ← ht] at e
  have h1 := Ws_take (Ws_L y) n
  have up : y < 2 ^ bitLen t * 18446744073709551616 ^ n := by
    have : (t + 1) * 18446744073709551616 ^ n ≤ 2 ^ bitLen t * 18446744073709551616 ^ n := Nat.mul_le_mul_right _ hb
    rw [Nat.add_mul, Nat.one_mul] at this; omega
  have hu : y * 2 ^ z < 18446744073709551616 ^ (n + 1) := by
    have h2 : y * 2 ^ z < 2 ^ bitLen t * 18446744073709551616 ^ n * 2 ^ z := Nat.mul_lt_mul_of_pos_right up (Nat.two_pow_pos z)
    have h3 : 2 ^ bitLen t * 18446744073709551616 ^ n * 2 ^ z = 18446744073709551616 ^ (n + 1) := by
      rw [Nat.mul_right_comm, ← Nat.pow_add, show bitLen t + z = 64 by omega, show (2 : Nat) ^ 64 = 18446744073709551616 by decide, Nat.pow_succ 18446744073709551616 n, Nat.mul_comm]
    omega
  have lo : (L (y * 2 ^ z)).length ≤ n + 1 := L_len _ _ hu
  have hi : n < (L (y * 2 ^ z)).length := by
    refine digs_length_lt _ (by decide) n _ ?_
    have hy : 18446744073709551616 ^ n ≤ y := by
      rcases Nat.lt_or_ge y (18446744073709551616 ^ n) with h | h
      · have := L_len _ _ h; omega
      · exact h
    exact Nat.le_trans hy (Nat.le_mul_of_pos_right _ (Nat.two_pow_pos z))
  omega
theorem top_key (ds : List Nat) (n : Nat) (hl : ds.length = n + 1) (h : ∀ h : ds ≠ [], ds.getLast h ≠ 0) : 0 < ds[n]'(by omega) := by
  have hne : ds ≠ [] := by intro h; rw [h] at hl; simp at hl
  have := h hne
  rw [List.getLast_eq_getElem] at this
  simp only [hl, Nat.add_sub_cancel] at this
  exact Nat.pos_of_ne_zero this
theorem top_pos (y n : Nat) (hl : (L y).length = n + 1) : 0 < (L y)[n]'(by omega) := top_key (L y) n hl (digs_last 18446744073709551616 (by decide) y)
theorem L_ge (y n : Nat) (hl : (L y).length = n + 1) : 18446744073709551616 ^ n ≤ y := by
  rcases Nat.lt_or_ge y (18446744073709551616 ^ n) with h | h
  · have := L_len _ _ h; omega
  · exact h
/-- what stands above the first window is less than the divisor -/
theorem first_lt (x y m n z : Nat) (hx : (L x).length = m) (hy : (L y).length = n + 1) (hm : n + 1 ≤ m) : x * 2 ^ z / 18446744073709551616 ^ (m - n) < y * 2 ^ z := by
  have h1 : x < 18446744073709551616 ^ m := by have := V_lt (Ws_L x); rw [V_L, hx] at this; exact this
  have h2 := L_ge y n hy
  rw [Nat.div_lt_iff_lt_mul (Nat.pow_pos (by decide)), Nat.mul_right_comm]
  refine Nat.mul_lt_mul_of_pos_right ?_ (Nat.two_pow_pos z)
  have h3 : 18446744073709551616 ^ m = 18446744073709551616 ^ n * 18446744073709551616 ^ (m - n) := by rw [← Nat.pow_add]; congr 1; omega
  have := Nat.mul_le_mul_right (18446744073709551616 ^ (m - n)) h2
  omega
theorem shl_len (x m z : Nat) (hx : (L x).length = m) (hz : z ≤ 64) : (L (x * 2 ^ z)).length ≤ m + 1 := by
  refine L_len _ _ ?_
  have h1 : x < 18446744073709551616 ^ m := by have := V_lt (Ws_L x); rw [V_L, hx] at this; exact this
  rw [Nat.pow_succ]
  refine Nat.lt_of_lt_of_le (Nat.mul_lt_mul_of_pos_right h1 (Nat.two_pow_pos z)) (Nat.mul_le_mul_left _ ?_)
  exact Nat.le_trans (Nat.pow_le_pow_right (by decide) hz) (by decide)
end Go.Proofs.QT
