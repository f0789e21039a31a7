/- Below: what is needed to go over all strings of so many bits. -/
import Derived.Test.YtelanfafgcnpmaaBelQ
import Derived.Test.YtelanfafgcnpmaaBelG
import Derived.Test.YtelanfafgcnpmaaBitsM
import Derived.Test.YtelanfafgcnpmaaRatG
namespace Go.Proofs.BL
open Go.RowKit
open Go.Proofs
open Go.Proofs.NP
open Go.Proofs.BT
open Go.Proofs.RA
open Go.Proofs.SL
open Go
set_option linter.unusedVariables false
set_option linter.unusedSimpArgs false
theorem ofB_bits (n : Nat) (w : Nat) : isB (ofB n w) = true ∨ 1024 < w := by
  rcases Nat.lt_or_ge 1024 w with h | h
  · exact .inr h
  · left
    refine isB_mk (bits_of _ (fun j hj => ?_)) (by rw [ofB_size]; omega)
    have e : (ofB n w)[j] = bitB n (w - 1 - j) := by
      rw [← lowL_get n w j (by rw [lowL_len]; rw [ofB_size] at hj; exact hj)]
      rfl
    rw [e]
    unfold bitB
    split <;> decide
theorem byD_ofB {n i m : Nat} (hm : 0 < m) (hn : n ≤ 1024) : byD (ofB i n) m = dn m n i := by
  have h := (ofB_bits i n).resolve_right (by omega)
  rw [byD, if_pos h, draw, if_neg (by simp; omega), ofB_size, dn]; rfl
theorem dn_at {m n i : Nat} : (dn m n i).at' ≤ n := by
  have := (drw_le (s := ofB i n) (m := m) (f := n + 1) (a := 0) (Nat.zero_le _)).2
  rw [ofB_size] at this; exact this
theorem dn_x {m n i : Nat} (h : (dn m n i).is = true) : (dn m n i).x < m := drw_is.2.1 h
/-- products crosswise, of fractions in lowest terms or not -/
theorem cross_le {A B C D g h : Nat} (hg : 0 < g) (hh : 0 < h) (e1 : g ∣ A) (e2 : g ∣ B) (e3 : h ∣ C) (e4 : h ∣ D) (hl : A * D ≤ C * B) : A / g * (D / h) ≤ C / h * (B / g) := by
  obtain ⟨a, rfl⟩ := e1
  obtain ⟨b, rfl⟩ := e2
  obtain ⟨c, rfl⟩ := e3
  obtain ⟨d, rfl⟩ := e4
  rw [Nat.mul_div_cancel_left _ hg, Nat.mul_div_cancel_left _ hg, Nat.mul_div_cancel_left _ hh, Nat.mul_div_cancel_left _ hh]
  have h1 : g * h * (a * d) ≤ g * h * (c * b) := by
    have e1 : g * a * (h * d) = g * h * (a * d) := by ac_rfl
    have e2 : h * c * (g * b) = g * h * (c * b) := by ac_rfl
    omega
  exact Nat.le_of_mul_le_mul_left h1 (Nat.mul_pos hg hh)
/-- the same, of fractions that are brought to lowest terms twice over -/
theorem cmp_le {A B C D : Nat} (hB : 0 < B) (hD : 0 < D) (hl : A * D ≤ C * B) (X Y X' Y' : Nat) (hX : X = A / Nat.gcd A B) (hY : Y = B / Nat.gcd A B) (hX' : X' = C / Nat.gcd C D) (hY' : Y' = D / Nat.gcd C D) :
    NT.cmpI (X / Nat.gcd X Y * (Y' / Nat.gcd X' Y')) (X' / Nat.gcd X' Y' * (Y / Nat.gcd X Y)) ≤ 0 := by
  have h1 : X * Y' ≤ X' * Y := by
    rw [hX, hY, hX', hY']
    exact cross_le (Nat.gcd_pos_of_pos_right _ hB) (Nat.gcd_pos_of_pos_right _ hD) (Nat.gcd_dvd_left _ _) (Nat.gcd_dvd_right _ _) (Nat.gcd_dvd_left _ _) (Nat.gcd_dvd_right _ _) hl
  have y0 : 0 < Y := by rw [hY]; exact Nat.div_pos (Nat.gcd_le_right _ hB) (Nat.gcd_pos_of_pos_right _ hB)
  have y1 : 0 < Y' := by rw [hY']; exact Nat.div_pos (Nat.gcd_le_right _ hD) (Nat.gcd_pos_of_pos_right _ hD)
  have h2 := cross_le (Nat.gcd_pos_of_pos_right X y0) (Nat.gcd_pos_of_pos_right X' y1) (Nat.gcd_dvd_left _ _) (Nat.gcd_dvd_right _ _) (Nat.gcd_dvd_left _ _) (Nat.gcd_dvd_right _ _) h1
  unfold NT.cmpI
  split
  · decide
  · rw [if_neg (by omega)]; decide
theorem boxed_nx {W W' : World} {b : Nat} {T : TypeId} {v : Value} (h : Boxed W b T v) (hk : Kp W W') : Boxed W' b T v := (hk.block b h.lt).trans h
theorem boxes4 (W : World) (a b c d : Value) (Ta Tb Tc Td : TypeId) :
    Boxed ((((W.alloc (.cells #[a] Ta)).alloc (.cells #[b] Tb)).alloc (.cells #[c] Tc)).alloc (.cells #[d] Td)) W.heap.size Ta a ∧
    Boxed ((((W.alloc (.cells #[a] Ta)).alloc (.cells #[b] Tb)).alloc (.cells #[c] Tc)).alloc (.cells #[d] Td)) (W.heap.size + 1) Tb b ∧
    Boxed ((((W.alloc (.cells #[a] Ta)).alloc (.cells #[b] Tb)).alloc (.cells #[c] Tc)).alloc (.cells #[d] Td)) (W.heap.size + 1 + 1) Tc c ∧
    Boxed ((((W.alloc (.cells #[a] Ta)).alloc (.cells #[b] Tb)).alloc (.cells #[c] Tc)).alloc (.cells #[d] Td)) (W.heap.size + 1 + 1 + 1) Td d ∧
    ((((W.alloc (.cells #[a] Ta)).alloc (.cells #[b] Tb)).alloc (.cells #[c] Tc)).alloc (.cells #[d] Td)).heap.size = W.heap.size + 1 + 1 + 1 + 1 := by
  have h1 := Boxed.new W Ta a
  have h2 := Boxed.new (W.alloc (.cells #[a] Ta)) Tb b
  have h3 := Boxed.new ((W.alloc (.cells #[a] Ta)).alloc (.cells #[b] Tb)) Tc c
  have h4 := Boxed.new (((W.alloc (.cells #[a] Ta)).alloc (.cells #[b] Tb)).alloc (.cells #[c] Tc)) Td d
  simp only [World.size_alloc] at h2 h3 h4 ⊢
  exact ⟨((h1.alloc _).alloc _).alloc _, (h2.alloc _).alloc _, h3.alloc _, h4, trivial⟩
theorem sum_rd_le (m z : Nat) : ∀ i, sum (fun i => rd z (dn m z i)) i ≤ i * z := sum_le _ _ (fun i => by
  unfold rd
  split
  · exact dn_at
  · exact Nat.le_refl _)
theorem sum_mo_le (m z : Nat) : ∀ i, sum (fun i => mo (dn m z i)) i ≤ i * 1 := sum_le _ _ (fun i => by
  unfold mo
  split <;> omega)
theorem wid_9 {k : Nat} (h1 : 1 ≤ k) (h : k ≤ 256) : wid k ≤ 8 := by
  unfold wid
  rw [bitLen_le_iff]
  have : (2 : Nat) ^ 8 = 256 := rfl
  omega
/-- a fraction, the cost of a number: the one is not above the other -/
theorem mean_cmp {A k z : Nat} (hk : 1 ≤ k) (hk2 : k ≤ 256) (hz : z ≤ 9) (hA : A ≤ 100000) (hl : A * k ≤ wid k * 2 ^ wid k * 2 ^ z) {us vs ps qs : List Nat}
    (hu : us = L (A / Nat.gcd A (2 ^ z))) (hv : vs = L (2 ^ z / Nat.gcd A (2 ^ z))) (hp : ps = L (cN k / Nat.gcd (cN k) k)) (hq : qs = L (k / Nat.gcd (cN k) k)) :
    ∃ c : Int, c ≤ 0 ∧ ∀ (W : World) (p q p' q' : Option Addr) (c1 c2 c3 c4 : Nat), Rd W p c1 us → Rd W q c2 vs → Rd W p' c3 ps → Rd W q' c4 qs →
      Calls Try.prog 29 #[.agg #[.bool false, .slice p us.length c1, .slice q vs.length c2], .agg #[.bool false, .slice p' ps.length c3, .slice q' qs.length c4]] W fun e w' => e = .returned (.int .i64 c) ∧ Kp W w' := by
  have h2 : 2 ^ z ≤ 2 ^ 9 := Nat.pow_le_pow_right (by decide) hz
  have h20 := Nat.two_pow_pos z
  have hw := wid_9 hk hk2
  have h3 : 2 ^ wid k ≤ 2 ^ 8 := Nat.pow_le_pow_right (by decide) hw
  have h4 : cN k ≤ 8 * 2 ^ 8 := by rw [cN]; exact Nat.mul_le_mul hw h3
  have l1 : us.length ≤ 1 := by rw [hu]; exact L_len _ 1 (by have := Nat.div_le_self A (Nat.gcd A (2 ^ z)); omega)
  have l2 : vs.length ≤ 1 := by rw [hv]; exact L_len _ 1 (by have := Nat.div_le_self (2 ^ z) (Nat.gcd A (2 ^ z)); omega)
  have l3 : ps.length ≤ 1 := by rw [hp]; exact L_len _ 1 (by have := Nat.div_le_self (cN k) (Nat.gcd (cN k) k); omega)
  have l4 : qs.length ≤ 1 := by rw [hq]; exact L_len _ 1 (by have := Nat.div_le_self k (Nat.gcd (cN k) k); omega)
  have n1 : 2 ^ z / Nat.gcd A (2 ^ z) ≠ 0 := by have := Nat.div_pos (Nat.gcd_le_right A h20) (Nat.gcd_pos_of_pos_right _ h20); omega
  have n2 : k / Nat.gcd (cN k) k ≠ 0 := by have := Nat.div_pos (Nat.gcd_le_right (cN k) (by omega : 0 < k)) (Nat.gcd_pos_of_pos_right _ (by omega)); omega
  exact ⟨_, cmp_le (A := A) (B := 2 ^ z) (C := cN k) (D := k) h20 (by omega) (by rw [cN]; exact hl) _ _ _ _ rfl rfl rfl rfl, fun W p q p' q' c1 c2 c3 c4 r1 r2 r3 r4 =>
    rcmp r1 r2 rfl rfl r3 r4 rfl rfl (by omega) _ _ _ _ (by rw [hu, V_L]) (by rw [hv, V_L]) (by rw [hp, V_L]) (by rw [hq, V_L]) n1 n2 _ rfl⟩
/-- it goes on, and so -/
def only (R : Act → World → Prop) : Exit → Act → World → Prop
  | .normal, a, w => R a w
  | _, _, _ => False
/-- the ways through a statement that leaves a fraction in a block meet again -/
theorem wpIn_rat {F : Fence} {n : Nat} {P : Program} {s : Code} {Q : Exit → Act → World → Prop} {a : Act} {w : World} (Fa : World → Nat → Option Addr → Option Addr → Nat → Nat → Prop) (A : Nat → Option Addr → Option Addr → Nat → Nat → Act)
    (h : ∀ K : Act → World → Prop, Hid (∀ w' g p q c d, Fa w' g p q c d → K (A g p q c d) w') → s.wpIn F n P (only K) a w) (rest : ∀ w' g p q c d, Fa w' g p q c d → Q .normal (A g p q c d) w') : s.wpIn F n P Q a w :=
  wpIn_mono (h (fun a' w' => ∃ g p q c d, Fa w' g p q c d ∧ a' = A g p q c d) (Lib.hid fun w' g p q c d h1 => ⟨g, p, q, c, d, h1, rfl⟩)) fun e a' w' he => by
    cases e with
    | normal =>
      obtain ⟨g, p, q, c, d, h1, rfl⟩ := he
      exact rest _ _ _ _ _ _ h1
    | _ => exact he.elim
end Go.Proofs.BL
