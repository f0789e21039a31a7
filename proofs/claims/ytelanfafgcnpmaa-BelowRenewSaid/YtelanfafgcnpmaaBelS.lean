/- Below: plain: the cost is the width, and, as often as a try fails, the cost again. Fractions in lowest terms. No program in sight. -/
import Derived.Test.YtelanfafgcnpmaaBelG
import Derived.Test.YtelanfafgcnpmaaRatI
import Derived.Test.YtelanfafgcnpmaaRatG
namespace Go.Proofs.BL
open Go.RowKit
open Go.Proofs
open Go.Proofs.NP
open Go.Proofs.SL
open Go.Proofs.RA
open Go.Proofs.NR (Fits)
open Go
set_option linter.unusedVariables false
set_option linter.unusedSimpArgs false
/-- a fraction in lowest terms is the same fraction -/
theorem red_eq (A B : Nat) : A / Nat.gcd A B * B = A * (B / Nat.gcd A B) := by
  obtain ⟨a, ha⟩ := Nat.gcd_dvd_left A B
  obtain ⟨b, hb⟩ := Nat.gcd_dvd_right A B
  rcases Nat.eq_zero_or_pos (Nat.gcd A B) with h | h
  · rw [h] at ha hb
    rw [Nat.zero_mul] at ha hb
    subst ha hb; simp
  · generalize Nat.gcd A B = g at *
    rw [ha, hb, Nat.mul_div_cancel_left _ h, Nat.mul_div_cancel_left _ h]
    ac_rfl
theorem red_pos {A B : Nat} (h : 0 < B) : 0 < B / Nat.gcd A B := Nat.div_pos (Nat.gcd_le_right A h) (Nat.gcd_pos_of_pos_right _ h)
theorem red_cop {A B : Nat} (h : 0 < B) : Nat.Coprime (A / Nat.gcd A B) (B / Nat.gcd A B) := Nat.coprime_div_gcd_div_gcd (Nat.gcd_pos_of_pos_right _ h)
/-- fractions that are alike are the same in lowest terms -/
theorem red_same {A B C D : Nat} (hB : 0 < B) (hD : 0 < D) (h : A * D = C * B) : A / Nat.gcd A B = C / Nat.gcd C D ∧ B / Nat.gcd A B = D / Nat.gcd C D := by
  obtain ⟨a, ha⟩ : ∃ a, a = A / Nat.gcd A B := ⟨_, rfl⟩
  obtain ⟨b, hb⟩ : ∃ b, b = B / Nat.gcd A B := ⟨_, rfl⟩
  obtain ⟨c, hc⟩ : ∃ c, c = C / Nat.gcd C D := ⟨_, rfl⟩
  obtain ⟨d, hd⟩ : ∃ d, d = D / Nat.gcd C D := ⟨_, rfl⟩
  have e1 := red_eq A B
  have e2 := red_eq C D
  have p1 := red_pos (A := A) hB
  have p2 := red_pos (A := C) hD
  have k1 := red_cop (A := A) hB
  have k2 := red_cop (A := C) hD
  rw [← ha, ← hb] at e1 k1
  rw [← hc, ← hd] at e2 k2
  rw [← hb] at p1
  rw [← hd] at p2
  rw [← ha, ← hb, ← hc, ← hd]
  have h2 : a * d = c * b := by
    have : B * D * (a * d) = B * D * (c * b) := by
      calc B * D * (a * d) = a * B * (D * d) := by ac_rfl
        _ = A * b * (D * d) := by rw [e1]
        _ = A * D * (b * d) := by ac_rfl
        _ = C * B * (b * d) := by rw [h]
        _ = C * d * (B * b) := by ac_rfl
        _ = c * D * (B * b) := by rw [e2]
        _ = B * D * (c * b) := by ac_rfl
    exact Nat.eq_of_mul_eq_mul_left (Nat.mul_pos hB hD) this
  have v1 : b ∣ d := by
    have : b ∣ a * d := by rw [h2]; exact Nat.dvd_mul_left _ _
    exact Nat.Coprime.dvd_of_dvd_mul_left k1.symm this
  have v2 : d ∣ b := by
    have : d ∣ c * b := by rw [← h2]; exact Nat.dvd_mul_left _ _
    exact Nat.Coprime.dvd_of_dvd_mul_left k2.symm this
  have hbd := Nat.dvd_antisymm v1 v2
  refine ⟨?_, hbd⟩
  rw [hbd] at h2
  exact Nat.eq_of_mul_eq_mul_right p2 h2
theorem cmpI_scale {k x y : Nat} (hk : 0 < k) : NT.cmpI (k * x) (k * y) = NT.cmpI x y := by
  unfold NT.cmpI
  rcases Nat.lt_trichotomy x y with h | h | h
  · rw [if_pos (Nat.mul_lt_mul_of_pos_left h hk), if_pos h]
  · subst h; simp
  · have h2 := Nat.mul_lt_mul_of_pos_left h hk
    rw [if_neg (by omega), if_pos h2, if_neg (by omega), if_pos h]
theorem cmpI_red {A B C D : Nat} (hB : 0 < B) (hD : 0 < D) : NT.cmpI (A / Nat.gcd A B * (D / Nat.gcd C D)) (C / Nat.gcd C D * (B / Nat.gcd A B)) = NT.cmpI (A * D) (C * B) := by
  have g1 := Nat.gcd_pos_of_pos_right A hB
  have g2 := Nat.gcd_pos_of_pos_right C hD
  obtain ⟨a, ha⟩ := Nat.gcd_dvd_left A B
  obtain ⟨b, hb⟩ := Nat.gcd_dvd_right A B
  obtain ⟨c, hc⟩ := Nat.gcd_dvd_left C D
  obtain ⟨d, hd⟩ := Nat.gcd_dvd_right C D
  generalize Nat.gcd A B = g at *
  generalize Nat.gcd C D = h at *
  rw [ha, hb, hc, hd, Nat.mul_div_cancel_left _ g1, Nat.mul_div_cancel_left _ g1, Nat.mul_div_cancel_left _ g2, Nat.mul_div_cancel_left _ g2]
  have e1 : g * a * (h * d) = g * h * (a * d) := by ac_rfl
  have e2 : h * c * (g * b) = g * h * (c * b) := by ac_rfl
  rw [e1, e2, cmpI_scale (Nat.mul_pos g1 g2)]
theorem cmpI_neg {x y : Nat} (h : x < y) : NT.cmpI x y = -1 := by unfold NT.cmpI; rw [if_pos h]
theorem cmpI_ge {x y : Nat} (h : y ≤ x) : 0 ≤ NT.cmpI x y := by unfold NT.cmpI; rw [if_neg (by omega)]; split <;> decide
theorem cmpI_le {x y : Nat} (h : x ≤ y) : NT.cmpI x y ≤ 0 := by unfold NT.cmpI; split; decide; rw [if_neg (by omega)]; decide
/-- a fraction against a number -/
theorem cmp_num {C m n : Nat} (hm : 0 < m) (X Y : Nat) (hX : X = C / Nat.gcd C m) (hY : Y = m / Nat.gcd C m) :
    NT.cmpI (X / Nat.gcd X Y * (1 / Nat.gcd n 1)) (n / Nat.gcd n 1 * (Y / Nat.gcd X Y)) = NT.cmpI C (n * m) := by
  have y0 : 0 < Y := by rw [hY]; exact red_pos hm
  have h1 := cmpI_red (A := X) (B := Y) (C := n) (D := 1) y0 (by decide)
  rw [h1, Nat.mul_one, hX, hY]
  have h2 := cmpI_red (A := C) (B := m) (C := n) (D := 1) hm (by decide)
  rw [Nat.gcd_one_right, Nat.div_one, Nat.div_one, Nat.mul_one, Nat.mul_one] at h2
  exact h2
/-- the widths' powers -/
theorem wid_lt {m : Nat} (hm : 1 < m) : 2 ^ wid m < 2 * m := by
  unfold wid
  have h : ¬ m - 1 < 2 ^ (bitLen (m - 1) - 1) := fun h => by
    have := (bitLen_le_iff (m - 1) (bitLen (m - 1) - 1)).2 h
    have h0 : bitLen (m - 1) = 0 := by omega
    have := (bitLen_le_iff (m - 1) 0).1 (by omega)
    simp at this; omega
  have e : bitLen (m - 1) = bitLen (m - 1) - 1 + 1 ∨ bitLen (m - 1) = 0 := by omega
  rcases e with e | e
  · rw [e, Nat.pow_succ]; omega
  · rw [e]; simp; omega
theorem wid_half {m : Nat} (h : 0 < wid m) : 2 ^ (wid m - 1) < m := by
  rcases Nat.lt_or_ge 1 m with h1 | h1
  · have := wid_lt h1
    obtain ⟨k, hk⟩ : ∃ k, wid m = k + 1 := ⟨wid m - 1, by omega⟩
    rw [hk, Nat.pow_succ] at this
    rw [hk, Nat.add_sub_cancel]; omega
  · exfalso
    have e : wid m = 0 := by
      unfold wid
      have := (bitLen_le_iff (m - 1) 0).2 (by simp; omega)
      omega
    omega
theorem cost_ge {m : Nat} (hm : 0 < m) : wid m * m ≤ cN m := by rw [cN]; exact Nat.mul_le_mul_left _ (lt_wid m hm)
theorem cost_lt {m : Nat} (hm : 1 < m) : cN m < 2 * wid m * m := by
  have h0 : 0 < wid m := by
    rcases Nat.eq_zero_or_pos (wid m) with h | h
    · have := wid_zero m (by omega) h; omega
    · exact h
  have h := wid_lt hm
  rw [cN, Nat.mul_comm 2, Nat.mul_assoc]
  exact Nat.mul_lt_mul_of_pos_left h h0
/-- so the sum of the width and of a part of the cost is the cost -/
theorem renew {m P F b : Nat} (hm : 0 < m) (hP : m ≤ P) (hF : F = P - m) (x y x' y' N D n d N2 D2 : Nat)
    (hx : x = F / Nat.gcd F P) (hy : y = P / Nat.gcd F P) (hx' : x' = b * P / Nat.gcd (b * P) m) (hy' : y' = m / Nat.gcd (b * P) m)
    (hN : N = x / Nat.gcd x y * (x' / Nat.gcd x' y')) (hD : D = y / Nat.gcd x y * (y' / Nat.gcd x' y')) (hn : n = N / Nat.gcd N D) (hd : d = D / Nat.gcd N D)
    (hN2 : N2 = b / Nat.gcd b 1 * (d / Nat.gcd n d) + n / Nat.gcd n d * (1 / Nat.gcd b 1)) (hD2 : D2 = 1 / Nat.gcd b 1 * (d / Nat.gcd n d)) :
    N2 / Nat.gcd N2 D2 = x' ∧ D2 / Nat.gcd N2 D2 = y' := by
  have p0 : 0 < P := by omega
  have py : 0 < y := by rw [hy]; exact red_pos p0
  have py' : 0 < y' := by rw [hy']; exact red_pos hm
  have pD : 0 < D := by rw [hD]; exact Nat.mul_pos (red_pos py) (red_pos py')
  have pd : 0 < d := by rw [hd]; exact red_pos pD
  obtain ⟨u, hu⟩ : ∃ u, u = n / Nat.gcd n d := ⟨_, rfl⟩
  obtain ⟨v, hv⟩ : ∃ v, v = d / Nat.gcd n d := ⟨_, rfl⟩
  have pv : 0 < v := by rw [hv]; exact red_pos pd
  rw [Nat.gcd_one_right, Nat.div_one, Nat.div_one, ← hu, ← hv, Nat.mul_one] at hN2
  rw [Nat.gcd_one_right, Nat.div_one, ← hv, Nat.one_mul] at hD2
  -- the product, brought to lowest terms again and again, is still the product
  have e1 : x * P = F * y := by rw [hx, hy]; exact red_eq F P
  have e2 : x' * m = b * P * y' := by rw [hx', hy']; exact red_eq (b * P) m
  have e3 := red_eq x y
  have e4 := red_eq x' y'
  have e5 : n * D = N * d := by rw [hn, hd]; exact red_eq N D
  have e6 : u * d = n * v := by rw [hu, hv]; exact red_eq n d
  generalize x / Nat.gcd x y = x1 at *
  generalize y / Nat.gcd x y = y1 at *
  generalize x' / Nat.gcd x' y' = x2 at *
  generalize y' / Nat.gcd x' y' = y2 at *
  -- x1 * P = F * y1, x2 * m = b * P * y2
  have f1 : x1 * P = F * y1 := Nat.eq_of_mul_eq_mul_right py (by
    calc x1 * P * y = x1 * y * P := by ac_rfl
      _ = x * y1 * P := by rw [e3]
      _ = x * P * y1 := by ac_rfl
      _ = F * y * y1 := by rw [e1]
      _ = F * y1 * y := by ac_rfl)
  have f2 : x2 * m = b * P * y2 := Nat.eq_of_mul_eq_mul_right py' (by
    calc x2 * m * y' = x2 * y' * m := by ac_rfl
      _ = x' * y2 * m := by rw [e4]
      _ = x' * m * y2 := by ac_rfl
      _ = b * P * y' * y2 := by rw [e2]
      _ = b * P * y2 * y' := by ac_rfl)
  have f3 : N * m = F * b * D := Nat.eq_of_mul_eq_mul_right p0 (by
    rw [hN, hD]
    calc x1 * x2 * m * P = x1 * P * (x2 * m) := by ac_rfl
      _ = F * y1 * (b * P * y2) := by rw [f1, f2]
      _ = F * b * (y1 * y2) * P := by ac_rfl)
  have f4 : n * m = F * b * d := Nat.eq_of_mul_eq_mul_right pD (by
    calc n * m * D = n * D * m := by ac_rfl
      _ = N * d * m := by rw [e5]
      _ = N * m * d := by ac_rfl
      _ = F * b * D * d := by rw [f3]
      _ = F * b * d * D := by ac_rfl)
  have f5 : u * m = F * b * v := Nat.eq_of_mul_eq_mul_right pd (by
    calc u * m * d = u * d * m := by ac_rfl
      _ = n * v * m := by rw [e6]
      _ = n * m * v := by ac_rfl
      _ = F * b * d * v := by rw [f4]
      _ = F * b * v * d := by ac_rfl)
  have f6 : N2 * m = b * P * D2 := by
    rw [hN2, hD2, Nat.add_mul, f5]
    have e : P = m + F := by omega
    rw [e]
    calc b * v * m + F * b * v = b * m * v + b * F * v := by congr 1 <;> ac_rfl
      _ = b * (m + F) * v := by rw [Nat.mul_add, Nat.add_mul]
  have r := red_same (A := N2) (B := D2) (C := b * P) (D := m) (by omega) hm f6
  rw [← hx', ← hy'] at r
  exact r
end Go.Proofs.BL
