/- Alias tables: plain: over all strings of n bits the pairs of a number below N and one below S come alike often. No program in sight. -/
import Derived.Test.YticickjnlkbkoaaBelT
import Derived.Test.YticickjnlkbkoaaAliJ
import Derived.Test.YticickjnlkbkoaaAliM
namespace Go.Proofs.AL
open Go.RowKit
open Go.Proofs
open Go.Proofs.NP
open Go.Proofs.BT
open Go.Proofs.BL
open Go
set_option linter.unusedVariables false
set_option linter.unusedSimpArgs false
theorem sum_swap (g : Nat → Nat → Nat) (S : Nat) : ∀ R, sum (fun r => sum (fun y => g r y) S) R = sum (fun y => sum (fun r => g r y) R) S
  | 0 => by simp only [sum]; rw [sum_const]; simp
  | R + 1 => by simp only [sum]; rw [sum_swap g S R, sum_plus]
theorem dn_x {m n i : Nat} (h : (dn m n i).is = true) : (dn m n i).x < m := by
  unfold dn at h ⊢
  exact drw_is.2.1 h
theorem dn_at (m n i : Nat) : (dn m n i).at' ≤ n := by
  have := (drw_le (s := ofB i n) (m := m) (f := n + 1) (a := 0) (Nat.zero_le _)).2
  rw [ofB_size] at this
  exact this
theorem sum_left (v : Nat) (f : Nat → Nat) (n : Nat) : sum (fun i => v * f i) n = v * sum f n := by
  rw [Nat.mul_comm, ← sum_scale]
  exact sum_congr (fun i _ => Nat.mul_comm _ _)
/-- by one draw: each number as often -/
theorem sum_draw {S m : Nat} (hS : 0 < S) (f : Nat → Nat) : sum (fun r => if (dn S m r).is = true then f (dn S m r).x else 0) (2 ^ m) = cnt S 0 m * sum f S := by
  have h1 : ∀ r, (if (dn S m r).is = true then f (dn S m r).x else 0) = sum (fun y => hit y (dn S m r) * f y) S := fun r => by
    by_cases h : (dn S m r).is = true
    · have hx := dn_x h
      have h2 := sum_one (f (dn S m r).x) (dn S m r).x S
      rw [if_pos hx] at h2
      rw [if_pos h, ← h2]
      refine sum_congr (fun y _ => ?_)
      unfold hit
      by_cases e : y = (dn S m r).x
      · rw [if_pos e, if_pos ⟨h, e.symm⟩, e, Nat.one_mul]
      · rw [if_neg e, if_neg (fun h => e h.2.symm), Nat.zero_mul]
    · have h2 : ∀ y, y < S → hit y (dn S m r) * f y = 0 := fun y _ => by
        unfold hit
        rw [if_neg (fun h3 => h h3.1), Nat.zero_mul]
      rw [if_neg h, sum_congr h2, sum_const, Nat.mul_zero]
  rw [sum_congr (fun r _ => h1 r), sum_swap, ← sum_left]
  refine sum_congr (fun y hy => ?_)
  rw [sum_scale]
  exact congrArg (· * f y) (cnt_same hS hy)
/-- what a string of n bits gives by two draws -/
def val (φ : Nat → Nat → Nat) (N S n i : Nat) : Nat :=
  if (dn N n i).is = true then (if (dn S (n - (dn N n i).at') (i % 2 ^ (n - (dn N n i).at'))).is = true then φ (dn N n i).x (dn S (n - (dn N n i).at') (i % 2 ^ (n - (dn N n i).at'))).x else 0) else 0
theorem val_of {φ : Nat → Nat → Nat} {N S n i : Nat} {d : Dr} (h : dn N n i = d) : val φ N S n i = if d.is = true then (if (dn S (n - d.at') (i % 2 ^ (n - d.at'))).is = true then φ d.x (dn S (n - d.at') (i % 2 ^ (n - d.at'))).x else 0) else 0 := by
  unfold val; rw [h]
theorem mod_pow {q r m k : Nat} (h : k ≤ m) : (q * 2 ^ m + r) % 2 ^ k = r % 2 ^ k := by
  obtain ⟨c, rfl⟩ : ∃ c, m = k + c := ⟨m - k, by omega⟩
  rw [Nat.pow_add, Nat.mul_comm q, Nat.mul_assoc, Nat.mul_add_mod]
theorem two_even {N S : Nat} (hN : 0 < N) (hS : 0 < S) : ∀ n, ∃ c, ∀ φ : Nat → Nat → Nat, sum (val φ N S n) (2 ^ n) = c * sum (fun q => sum (φ q) S) N := by
  intro n
  induction n using Nat.strongRecOn with
  | ind n ih => ?_
  by_cases h0 : wid N = 0
  · have h1 := wid_zero N hN h0
    subst h1
    refine ⟨cnt S 0 n, fun φ => ?_⟩
    have e : ∀ i, dn 1 n i = ⟨0, true, 0, false⟩ := fun i => by
      rw [dn, drw, ofB_size, if_neg (by omega), h0, numA, if_pos (by omega)]
    have e2 : sum (fun q => sum (φ q) S) 1 = sum (φ 0) S := by simp only [sum]; omega
    rw [e2, ← sum_draw hS]
    refine sum_congr (fun i hi => ?_)
    rw [val_of (e i)]
    simp only [if_true, Nat.sub_zero, Nat.mod_eq_of_lt hi]
  by_cases h : n < wid N
  · refine ⟨0, fun φ => ?_⟩
    rw [Nat.zero_mul, sum_congr (g := fun _ => 0) (fun i _ => by rw [val_of (dn_short h)]; rfl), sum_const, Nat.mul_zero]
  have hle : wid N ≤ n := by omega
  obtain ⟨c0, hc0⟩ := ih (n - wid N) (by omega)
  refine ⟨cnt S 0 (n - wid N) + (2 ^ wid N - N) * c0, fun φ => ?_⟩
  have hw := lt_wid N hN
  obtain ⟨m, hm⟩ : ∃ m, m = n - wid N := ⟨_, rfl⟩
  obtain ⟨B, hB⟩ : ∃ B, B = 2 ^ wid N := ⟨_, rfl⟩
  have e : 2 ^ n = B * 2 ^ m := by rw [hB, hm, ← Nat.pow_add]; congr 1; omega
  have hd0 : 0 < 2 ^ m := Nat.two_pow_pos _
  have hlt : ∀ q r, q < B → r < 2 ^ m → q * 2 ^ m + r < 2 ^ n := fun q r hq hr => by
    rw [e]
    have h1 : (q + 1) * 2 ^ m ≤ B * 2 ^ m := Nat.mul_le_mul_right _ hq
    rw [Nat.succ_mul] at h1
    omega
  have hdv : ∀ q r, r < 2 ^ m → (q * 2 ^ m + r) / 2 ^ m = q ∧ (q * 2 ^ m + r) % 2 ^ m = r := fun q r hr => by
    constructor
    · rw [Nat.mul_comm, Nat.mul_add_div hd0, Nat.div_eq_of_lt hr, Nat.add_zero]
    · rw [Nat.mul_comm, Nat.mul_add_mod, Nat.mod_eq_of_lt hr]
  have hdn : ∀ q r, q < B → r < 2 ^ m → dn N n (q * 2 ^ m + r) = if q < N then ⟨q, true, wid N, false⟩ else (dn N m r).up (wid N) := fun q r hq hr => by
    have := dn_long (m := N) (n := n) (i := q * 2 ^ m + r) hN hle (by omega) (hlt q r hq hr)
    rw [← hm, (hdv q r hr).1, (hdv q r hr).2] at this
    exact this
  rw [← hm] at hc0 ⊢
  rw [← hB] at hw ⊢
  rw [e, sum_mul]
  obtain ⟨k, hk⟩ : ∃ k, B = N + k := ⟨B - N, by omega⟩
  have e2 : B - N = k := by omega
  rw [e2]
  have s1 : sum (fun q => sum (fun r => val φ N S n (q * 2 ^ m + r)) (2 ^ m)) N = cnt S 0 m * sum (fun q => sum (φ q) S) N := by
    rw [← sum_left]
    refine sum_congr (fun q hq => ?_)
    rw [← sum_draw hS]
    refine sum_congr (fun r hr => ?_)
    have h1 := hdn q r (by omega) hr
    rw [if_pos hq] at h1
    rw [val_of h1]
    simp only [if_true, ← hm, mod_pow (Nat.le_refl m), Nat.mod_eq_of_lt hr]
  have s2 : sum (fun q => sum (fun r => val φ N S n ((N + q) * 2 ^ m + r)) (2 ^ m)) k = k * (c0 * sum (fun q => sum (φ q) S) N) := by
    rw [← sum_const]
    refine sum_congr (fun q hq => ?_)
    rw [← hc0]
    refine sum_congr (fun r hr => ?_)
    have h1 := hdn (N + q) r (by omega) hr
    rw [if_neg (by omega)] at h1
    have h2 := dn_at N m r
    have h3 : n - ((dn N m r).at' + wid N) = m - (dn N m r).at' := by omega
    rw [val_of h1]
    unfold val Dr.up
    simp only [h3, mod_pow (show m - (dn N m r).at' ≤ m by omega)]
  rw [hk, sum_add, s1, s2, Nat.add_mul, Nat.mul_assoc]
/-- the second draw of a string of n bits -/
theorem draw_second {S n i a : Nat} (hS : 0 < S) (ha : a ≤ n) : draw (ofB i n) S a false = (dn S (n - a) (i % 2 ^ (n - a))).up a := by
  rw [draw, if_neg (by simp; omega), ofB_size]
  have := drw_tail i n a S ha (n - a + 1) 0 (by omega)
  rw [Nat.zero_add] at this
  rw [this]; rfl
theorem draw_first {N n i : Nat} (hN : 0 < N) : draw (ofB i n) N 0 false = dn N n i := by
  rw [draw, if_neg (by simp; omega), ofB_size]; rfl
end Go.Proofs.AL
