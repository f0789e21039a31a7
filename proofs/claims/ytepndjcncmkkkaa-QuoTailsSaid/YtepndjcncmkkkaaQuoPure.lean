/- Plain arithmetic of long division over limbs. No program in sight. -/
import Derived.Test.YtepndjcncmkkkaaNatMore
import Derived.Test.YtepndjcncmkkkaaSl
namespace Go.Proofs.QP
open Go.Proofs.NP
open Go.Proofs.SL
set_option linter.unusedVariables false
set_option linter.unusedSimpArgs false

theorem V_drop (xs : List Nat) (i : Nat) (h : i < xs.length) : V (xs.drop i) = xs[i] + 18446744073709551616 * V (xs.drop (i + 1)) := by
  rw [List.drop_eq_getElem_cons h]; rfl
theorem V_drop_set (os : List Nat) (i v : Nat) (h : i < os.length) : V ((os.set i v).drop i) = v + 18446744073709551616 * V (os.drop (i + 1)) := by
  rw [V_drop _ _ (by simpa using h)]
  rw [List.getElem_set_self, List.drop_set_of_lt (by omega)]
theorem short_step (Q d r A x : Nat) (hd : 0 < d) (h : Q * d + r = A) (hr : r < d) (hx : x < 18446744073709551616) :
    ((r * 18446744073709551616 + x) / d + 18446744073709551616 * Q) * d + (r * 18446744073709551616 + x) % d = x + 18446744073709551616 * A ∧ (r * 18446744073709551616 + x) / d < 18446744073709551616 ∧ (r * 18446744073709551616 + x) % d < d := by
  have e := Nat.div_add_mod (r * 18446744073709551616 + x) d
  generalize hB : (18446744073709551616 : Nat) = B at *
  refine ⟨?_, ?_, Nat.mod_lt _ hd⟩
  · subst h
    rw [Nat.add_mul, Nat.mul_comm _ d, Nat.mul_add, Nat.mul_comm r B, Nat.mul_assoc B Q d] at *
    generalize d * ((B * r + x) / d) = m at *
    omega
  · rw [Nat.div_lt_iff_lt_mul hd]
    have : (r + 1) * B ≤ d * B := Nat.mul_le_mul_right _ hr
    rw [Nat.succ_mul] at this
    rw [Nat.mul_comm B d]; omega
theorem short_done (Q d r A : Nat) (hd : 0 < d) (h : Q * d + r = A) (hr : r < d) : Q = A / d ∧ r = A % d := by
  subst h
  constructor
  · rw [Nat.mul_comm, Nat.add_comm, Nat.add_mul_div_left _ _ hd, Nat.div_eq_of_lt hr]; omega
  · rw [Nat.mul_comm, Nat.add_comm, Nat.add_mul_mod_self_left, Nat.mod_eq_of_lt hr]

/-- one limb more of 'take' -/
theorem take_step (b W D q W0 ov bo x wi w0 high low low2 c bo2 P : Nat) (h : W + D * q = W0 + (ov + bo) * P)
    (h1 : x * q = high * b + low) (h2 : low + ov = low2 + c * b) (h3 : wi + low2 + bo = w0 + bo2 * b) :
    (W + wi * P) + (D + x * P) * q = (W0 + w0 * P) + ((high + c) + bo2) * (P * b) := by
  have e1 : (D + x * P) * q = D * q + (x * q) * P := by rw [Nat.add_mul]; congr 1; rw [Nat.mul_right_comm]
  have e2 : x * q + ov + wi + bo = (high + c) * b + w0 + bo2 * b := by
    rw [h1, Nat.add_mul]; omega
  have e3 : (x * q + ov + wi + bo) * P = ((high + c) * b + w0 + bo2 * b) * P := by rw [e2]
  rw [e1]
  have e4 : ((high + c) + bo2) * (P * b) = ((high + c) * b) * P + (bo2 * b) * P := by
    rw [Nat.add_mul, Nat.mul_comm P b, Nat.mul_assoc, Nat.mul_assoc]
  rw [e4]
  simp only [Nat.add_mul] at e3 h ⊢
  omega
theorem take_end (b W D q W0 ov bo wi w0 bo2 P : Nat) (h : W + D * q = W0 + (ov + bo) * P) (h3 : wi + ov + bo = w0 + bo2 * b) :
    (W + wi * P) + D * q = (W0 + w0 * P) + bo2 * (P * b) := by
  have e3 : (wi + ov + bo) * P = (w0 + bo2 * b) * P := by rw [h3]
  have e4 : bo2 * (P * b) = bo2 * b * P := by rw [Nat.mul_comm P b, Nat.mul_assoc]
  rw [e4]
  simp only [Nat.add_mul] at e3 h ⊢
  omega
theorem back_step (b W D W0 c x wi w0 c2 P : Nat) (h : W + c * P = W0 + D) (h1 : w0 + x + c = wi + c2 * b) :
    (W + wi * P) + c2 * (P * b) = (W0 + w0 * P) + (D + x * P) := by
  have e3 : (w0 + x + c) * P = (wi + c2 * b) * P := by rw [h1]
  have e4 : c2 * (P * b) = c2 * b * P := by rw [Nat.mul_comm P b, Nat.mul_assoc]
  rw [e4]
  simp only [Nat.add_mul] at e3 h ⊢
  omega
/-- what is carried over stays a limb -/
theorem over_lt (b x q ov high low low2 c : Nat) (hb : 2 ≤ b) (hx : x < b) (hq : q < b) (ho : ov < b) (h1 : x * q = high * b + low) (h2 : low + ov = low2 + c * b) : high + c < b := by
  have m : x * q ≤ (b - 1) * (b - 1) := Nat.mul_le_mul (by omega) (by omega)
  obtain ⟨k, rfl⟩ : ∃ k, b = k + 1 := ⟨b - 1, by omega⟩
  simp only [Nat.add_sub_cancel] at m
  have e : (high + c) * (k + 1) + low2 = x * q + ov := by rw [Nat.add_mul]; omega
  rcases Nat.lt_or_ge (high + c) (k + 1) with h | h
  · exact h
  · have := Nat.mul_le_mul_right (k + 1) h
    have e2 : (k + 1) * (k + 1) = k * k + k + k + 1 := by rw [Nat.mul_succ, Nat.succ_mul]; omega
    omega

/-- lists with a window -/
theorem mid_get (pre ws post : List Nat) (j : Nat) (h : j < ws.length) : (pre ++ ws ++ post)[pre.length + j]?.getD 0 = ws[j] := by
  rw [List.append_assoc, List.getElem?_append_right (by omega), Nat.add_sub_cancel_left, List.getElem?_append_left h]
  simp [h]
theorem mid_set (pre ws post : List Nat) (j v : Nat) (h : j < ws.length) : (pre ++ ws ++ post).set (pre.length + j) v = pre ++ ws.set j v ++ post := by
  rw [List.append_assoc, List.set_append_right _ _ (by omega), Nat.add_sub_cancel_left, List.set_append_left _ _ h, List.append_assoc]
theorem take_set (ws : List Nat) (j v : Nat) (h : j < ws.length) : (ws.set j v).take (j + 1) = ws.take j ++ [v] := by
  rw [List.take_succ_eq_append_getElem (by simpa using h), List.take_set_of_le (Nat.le_refl _)]
  simp
theorem V_take_set (ws : List Nat) (j v : Nat) (h : j < ws.length) : V ((ws.set j v).take (j + 1)) = V (ws.take j) + v * 18446744073709551616 ^ j := by
  rw [take_set ws j v h, V, val_append]
  simp [val, V, Nat.min_eq_left (Nat.le_of_lt h), Nat.mul_comm]
theorem V_take (ws : List Nat) (j : Nat) (h : j < ws.length) : V (ws.take (j + 1)) = V (ws.take j) + ws[j] * 18446744073709551616 ^ j := val_take_succ _ ws j h

/-- the guess is not too small -/
theorem guess_ge (P d hi lo t m : Nat) (ht : 0 < t) (hP : P < (hi * 18446744073709551616 + lo + 1) * m) (hd : t * m ≤ d) : P / d ≤ (hi * 18446744073709551616 + lo) / t := by
  by_cases hd0 : d = 0
  · subst hd0; simp
  rw [Nat.le_div_iff_mul_le ht]
  have h1 : P / d * (t * m) ≤ P := Nat.le_trans (Nat.mul_le_mul_left _ hd) (Nat.div_mul_le_self _ _)
  have h2 : P / d * t * m < (hi * 18446744073709551616 + lo + 1) * m := by rw [Nat.mul_assoc]; omega
  have := Nat.lt_of_mul_lt_mul_right h2
  omega
end Go.Proofs.QP
