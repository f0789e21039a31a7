/- Below: what is needed to go over all strings of so many bits. -/
import Derived.Test.YticickjnlkbkoaaBelQ
import Derived.Test.YticickjnlkbkoaaBelG
import Derived.Test.YticickjnlkbkoaaBitsM
import Derived.Test.YticickjnlkbkoaaRatG
namespace Go.Proofs.BL
open Go.RowKit
open Go.Proofs
open Go.Proofs.NP
open Go.Proofs.BT
open Go.Proofs.RA
open Go.Proofs.SL
open Go
set_option linter.unusedVariables false
set_option linter.unusedSimpArgs false
theorem ofB_bits (n : Nat) (w : Nat) : isB (ofB n w) = true ∨ 1024 < w := by
  rcases Nat.lt_or_ge 1024 w with h | h
  · exact .inr h
  · left
    refine isB_mk (bits_of _ (fun j hj => ?_)) (by rw [ofB_size]; omega)
    have e : (ofB n w)[j] = bitB n (w - 1 - j) := by
      rw [← lowL_get n w j (by rw [lowL_len]; rw [ofB_size] at hj; exact hj)]
      rfl
    rw [e]
    unfold bitB
    split <;> decide
theorem byD_ofB {n i m : Nat} (hm : 0 < m) (hn : n ≤ 1024) : byD (ofB i n) m = dn m n i := by
  have h := (ofB_bits i n).resolve_right (by omega)
  rw [byD, if_pos h, draw, if_neg (by simp; omega), ofB_size, dn]; rfl
theorem dn_at {m n i : Nat} : (dn m n i).at' ≤ n := by
  have := (drw_le (s := ofB i n) (m := m) (f := n + 1) (a := 0) (Nat.zero_le _)).2
  rw [ofB_size] at this; exact this
theorem dn_x {m n i : Nat} (h : (dn m n i).is = true) : (dn m n i).x < m := drw_is.2.1 h
/-- products crosswise, of fractions in lowest terms or not -/
theorem cross_le {A B C D g h : Nat} (hg : 0 < g) (hh : 0 < h) (e1 : g ∣ A) (e2 : g ∣ B) (e3 : h ∣ C) (e4 : h ∣ D) (hl : A * D ≤ C * B) : A / g * (D / h) ≤ C / h * (B / g) := by
  obtain ⟨a, rfl⟩ := e1
  obtain ⟨b, rfl⟩ := e2
  obtain ⟨c, rfl⟩ := e3
  obtain ⟨d, rfl⟩ := e4
  rw [Nat.mul_div_cancel_left _ hg, Nat.mul_div_cancel_left _ hg, Nat.mul_div_cancel_left _ hh, Nat.mul_div_cancel_left _ hh]
  have h1 : g * h * (a * d) ≤ g * h * (c * b) := by
    have e1 : g * a * (h * d) = g * h * (a * d) := by ac_rfl
    have e2 : h * c * (g * b) = g * h * (c * b) := by ac_rfl
    omega
  exact Nat.le_of_mul_le_mul_left h1 (Nat.mul_pos hg hh)
/-- the same, of fractions that are brought to lowest terms twice over -/
theorem cmp_le {A B C D : Nat} (hB : 0 < B) (hD : 0 < D) (hl : A * D ≤ C * B) (X Y X' Y' : Nat) (hX : X = A / Nat.gcd A B) (hY : Y = B / Nat.gcd A B) (hX' : X' = C / Nat.gcd C D) (hY' : Y' = D / Nat.gcd C D) :
    NT.cmpI (X / Nat.gcd X Y * (Y' / Nat.gcd X' Y')) (X' / Nat.gcd X' Y' * (Y / Nat.gcd X Y)) ≤ 0 := by
  have h1 : X * Y' ≤ X' * Y := by
    rw [hX, hY, hX', hY']
    exact cross_le (Nat.gcd_pos_of_pos_right _ hB) (Nat.gcd_pos_of_pos_right _ hD) (Nat.gcd_dvd_left _ _) (Nat.gcd_dvd_right _ _) (Nat.gcd_dvd_left _ _) (Nat.gcd_dvd_right _ _) hl
  have y0 : 0 < Y := by rw [hY]; exact Nat.div_pos (Nat.gcd_le_right _ hB) (Nat.gcd_pos_of_pos_right _ hB)
  have y1 : 0 < Y' := by rw [hY']; exact Nat.div_pos (Nat.gcd_le_right _ hD) (Nat.gcd_pos_of_pos_right _ hD)
  have h2 := cross_le (Nat.gcd_pos_of_pos_right X y0) (Nat.gcd_pos_of_pos_right X' y1) (Nat.gcd_dvd_left _ _) (Nat.gcd_dvd_right _ _) (Nat.gcd_dvd_left _ _) (Nat.gcd_dvd_right _ _) h1
  unfold NT.cmpI
  split
  · decide
  · rw [if_neg (by omega)]; decide
theorem boxed_nx {W W' : World} {b : Nat} {T : TypeId} {v : Value} (h : Boxed W b T v) (hk : Kp W W') : Boxed W' b T v := (hk.block b h.lt).trans h
theorem boxes4 (W : World) (a b c d : Value) (Ta Tb Tc Td : TypeId) :
    Boxed ((((W.alloc (.cells #[a] Ta)).alloc (.cells #[b] Tb)).alloc (.cells #[c] Tc)).alloc (.cells #[d] Td)) W.heap.size Ta a ∧
    Boxed ((((W.alloc (.cells #[a] Ta)).alloc (.cells #[b] Tb)).alloc (.cells #[c] Tc)).alloc (.cells #[d] Td)) (W.heap.size + 1) Tb b ∧
    Boxed ((((W.alloc (.cells #[a] Ta)).alloc (.cells #[b] Tb)).alloc (.cells #[c] Tc)).alloc (.cells #[d] Td)) (W.heap.size + 1 + 1) Tc c ∧
    Boxed ((((W.alloc (.cells #[a] Ta)).alloc (.cells #[b] Tb)).alloc (.cells #[c] Tc)).alloc (.cells #[d] Td)) (W.heap.size + 1 + 1 + 1) Td d ∧
    ((((W.alloc (.cells #[a] Ta)).alloc (.cells #[b] Tb)).alloc (.cells #[c] Tc)).alloc (.cells #[d] Td)).heap.size = W.heap.size + 1 + 1 + 1 + 1 := by
  have h1 := Boxed.new W Ta a
  have h2 := Boxed.new (W.alloc (.cells #[a] Ta)) Tb b
  have h3 := Boxed.new ((W.alloc (.cells #[a] Ta)).alloc (.cells #[b] Tb)) Tc c
  have h4 := Boxed.new (((W.alloc (.cells #[a] Ta)).alloc (.cells #[b] Tb)).alloc (.cells #[c] Tc)) Td d
  simp only [World.size_alloc] at h2 h3 h4 ⊢
  exact ⟨((h1.alloc _).alloc _).alloc _, (h2.alloc _).alloc _, h3.alloc _, h4, trivial⟩
theorem sum_rd_le (m z : Nat) : ∀ i, sum (fun i => rd z (dn m z i)) i ≤ i * z := sum_le _ _ (fun i => by
  unfold rd
  split
  · exact dn_at
  · exact Nat.le_refl _)
theorem sum_mo_le (m z : Nat) : ∀ i, sum (fun i => mo (dn m z i)) i ≤ i * 1 := sum_le _ _ (fun i => by
  unfold mo
  split <;> omega)
theorem wid_9 {k : Nat} (h1 : 1 ≤ k) (h : k ≤ 256) : wid k ≤ 8 := by
  unfold wid
  rw [bitLen_le_iff]
  have : (2 : Nat) ^ 8 = 256 := rfl
  omega
/-- it goes on, and so -/
def only (R : Act → World → Prop) : Exit → Act → World → Prop
  | .normal, a, w => R a w
  | _, _, _ => False
/-- the ways through a statement that leaves a fraction in a block meet again -/
theorem wpIn_rat {F : Fence} {n : Nat} {P : Program} {s : Code} {Q : Exit → Act → World → Prop} {a : Act} {w : World} (Fa : World → Nat → Option Addr → Option Addr → Nat → Nat → Prop) (A : Nat → Option Addr → Option Addr → Nat → Nat → Act)
    (h : ∀ K : Act → World → Prop, Hid (∀ w' g p q c d, Fa w' g p q c d → K (A g p q c d) w') → s.wpIn F n P (only K) a w) (rest : ∀ w' g p q c d, Fa w' g p q c d → Q .normal (A g p q c d) w') : s.wpIn F n P Q a w :=
  wpIn_mono (h (fun a' w' => ∃ g p q c d, Fa w' g p q c d ∧ a' = A g p q c d) (Lib.hid fun w' g p q c d h1 => ⟨g, p, q, c, d, h1, rfl⟩)) fun e a' w' he => by
    cases e with
    | normal =>
      obtain ⟨g, p, q, c, d, h1, rfl⟩ := he
      exact rest _ _ _ _ _ _ h1
    | _ => exact he.elim
end Go.Proofs.BL
