/- Plain arithmetic: the two halves of a division of two words by one, as math-bits does it: no program in sight. -/
namespace Go.Proofs.DivPure

abbrev B : Int := 4294967296

/-- what a half of the division knows -/
structure Half (Y yn1 yn0 U un1 : Int) : Prop where
  y : Y = yn1 * 4294967296 + yn0
  a0 : 0 ≤ yn0
  a1 : yn0 ≤ 4294967295
  b0 : 2147483648 ≤ yn1
  b1 : yn1 ≤ 4294967295
  u0 : 0 ≤ U
  u1 : U < Y
  v0 : 0 ≤ un1
  v1 : un1 ≤ 4294967295

variable {Y yn1 yn0 U un1 : Int}

theorem Half.Ypos (h : Half Y yn1 yn0 U un1) : 0 < Y := by
  have := h.y; have := h.a0; have := h.b0; omega

theorem Half.Ylt (h : Half Y yn1 yn0 U un1) : Y ≤ 18446744073709551615 := by
  have := h.y; have := h.a1; have := h.b1; omega

theorem Half.Qlt (h : Half Y yn1 yn0 U un1) : (U * 4294967296 + un1) / Y < 4294967296 := by
  apply Int.ediv_lt_of_lt_mul h.Ypos
  have := h.u1; have := h.v1; omega

theorem Half.Qnn (h : Half Y yn1 yn0 U un1) : 0 ≤ (U * 4294967296 + un1) / Y := by
  apply Int.ediv_nonneg
  · have := h.u0; have := h.v0; omega
  · have := h.Ypos; omega

theorem Half.nn0 (h : Half Y yn1 yn0 U un1) (hb : 2147483648 ≤ yn1) (q : Int) (e : yn1 * q + U % yn1 = U) : 0 ≤ q := by
  have l := Int.emod_lt_of_pos U (show 0 < yn1 by omega)
  have h0 := h.u0
  by_cases hq : 0 ≤ q
  · exact hq
  · have : yn1 * q ≤ yn1 * (-1) := Int.mul_le_mul_of_nonneg_left (by omega) (by omega)
    omega

/-- the first guess is not too small -/
theorem Half.first (h : Half Y yn1 yn0 U un1) : (U * 4294967296 + un1) / Y ≤ U / yn1 := by
  have hb := h.b0
  apply Int.le_of_lt_add_one
  apply Int.ediv_lt_of_lt_mul h.Ypos
  have e := Int.mul_ediv_add_emod U yn1
  have l := Int.emod_lt_of_pos U (show 0 < yn1 by omega)
  generalize U / yn1 = q at *
  have hq : 0 ≤ q + 1 := by
    have h0 := h.nn0 hb q e
    omega
  have h1 : U < yn1 * (q + 1) := by rw [Int.mul_add]; omega
  have h2 : (q + 1) * Y = (yn1 * (q + 1)) * 4294967296 + (q + 1) * yn0 := by rw [h.y]; grind
  rw [h2]
  have h3 := Int.mul_nonneg hq h.a0
  have := h.v1
  omega

/-- .. and not far too great -/
theorem Half.near (h : Half Y yn1 yn0 U un1) : U / yn1 ≤ 4294967297 := by
  have hb := h.b0
  apply Int.le_of_lt_add_one
  apply Int.ediv_lt_of_lt_mul (by omega)
  have := h.y; have := h.u1; have := h.a1; omega

theorem Half.nn (h : Half Y yn1 yn0 U un1) : 0 ≤ U / yn1 := Int.ediv_nonneg h.u0 (by have := h.b0; omega)

theorem Half.key (h : Half Y yn1 yn0 U un1) {q r : Int} (e : q * yn1 + r = U) : q * Y = U * 4294967296 - 4294967296 * r + q * yn0 := by
  rw [h.y, ← e]; grind

theorem Half.small (h : Half Y yn1 yn0 U un1) {q r : Int} (e : q * yn1 + r = U) (hq : (U * 4294967296 + un1) / Y ≤ q) (hn : q * yn0 ≤ 4294967296 * r + un1) : q = (U * 4294967296 + un1) / Y := by
  apply Int.le_antisymm _ hq
  apply (Int.le_ediv_iff_mul_le h.Ypos).2
  rw [h.key e]; omega

theorem Half.great (h : Half Y yn1 yn0 U un1) {q r : Int} (e : q * yn1 + r = U) (hn : 4294967296 * r + un1 < q * yn0) : (U * 4294967296 + un1) / Y ≤ q - 1 := by
  have : (U * 4294967296 + un1) / Y < q := by
    apply Int.ediv_lt_of_lt_mul h.Ypos
    rw [h.key e]; omega
  omega

theorem Half.mulB (h : Half Y yn1 yn0 U un1) {q : Int} (hq : q ≤ 4294967297) : q * yn0 ≤ 4294967297 * yn0 := Int.mul_le_mul_of_nonneg_right hq h.a0

theorem Half.left (h : Half Y yn1 yn0 U un1) {q r : Int} (hr : 4294967296 ≤ r) (hq : q ≤ 4294967296) : q * yn0 ≤ 4294967296 * r + un1 := by
  have := Int.mul_le_mul_of_nonneg_right hq h.a0
  have := h.a1; have := h.v0; omega

/-- what is left behind a half -/
theorem rest (Y U un1 : Int) : U * 4294967296 + un1 - (U * 4294967296 + un1) / Y * Y = (U * 4294967296 + un1) % Y := by
  have := Int.mul_ediv_add_emod (U * 4294967296 + un1) Y
  rw [Int.mul_comm Y] at this; omega

theorem Half.rest_nn (h : Half Y yn1 yn0 U un1) : 0 ≤ (U * 4294967296 + un1) % Y := Int.emod_nonneg _ (by have := h.Ypos; omega)
theorem Half.rest_lt (h : Half Y yn1 yn0 U un1) : (U * 4294967296 + un1) % Y < Y := Int.emod_lt_of_pos _ h.Ypos

/-- two halves are the whole -/
theorem whole (Y U un1 un0 : Int) (hY : 0 < Y) :
    (U * 4294967296 + un1) / Y * 4294967296 + ((U * 4294967296 + un1) % Y * 4294967296 + un0) / Y = (U * 18446744073709551616 + un1 * 4294967296 + un0) / Y ∧
    ((U * 4294967296 + un1) % Y * 4294967296 + un0) % Y = (U * 18446744073709551616 + un1 * 4294967296 + un0) % Y := by
  have e := Int.mul_ediv_add_emod (U * 4294967296 + un1) Y
  generalize (U * 4294967296 + un1) / Y = q at *
  generalize (U * 4294967296 + un1) % Y = r at *
  have h : U * 18446744073709551616 + un1 * 4294967296 + un0 = (r * 4294967296 + un0) + Y * (q * 4294967296) := by
    have : U * 18446744073709551616 + un1 * 4294967296 = (U * 4294967296 + un1) * 4294967296 := by omega
    rw [this, ← e]; grind
  rw [h, Int.add_mul_ediv_left _ _ (by omega), Int.add_mul_emod_self_left]
  exact ⟨by omega, rfl⟩

/-- shifted by so many places it is the same quotient; what is left is shifted -/
theorem scaled (x y k : Int) (hk : 0 < k) : (x * k) / (y * k) = x / y ∧ (x * k) % (y * k) = (x % y) * k :=
  ⟨Int.mul_ediv_mul_of_pos_left _ _ hk, by rw [Int.mul_comm x k, Int.mul_comm y k, Int.mul_emod_mul_of_pos _ _ hk, Int.mul_comm]⟩


/-- what holds at the head of a half's loop -/
structure HL (Y yn1 U un1 q r : Int) : Prop where
  e : q * yn1 + r = U
  lo : (U * 4294967296 + un1) / Y ≤ q
  q0 : 0 ≤ q
  q1 : q ≤ 4294967297
  r0 : 0 ≤ r
  r1 : r ≤ 4294967295

theorem HL.start (h : Half Y yn1 yn0 U un1) : HL Y yn1 U un1 (U / yn1) ((U - (U / yn1 * yn1) % 18446744073709551616) % 18446744073709551616) := by
  have e := Int.mul_ediv_add_emod U yn1
  have hb := h.b0
  have l := Int.emod_lt_of_pos U (show 0 < yn1 by omega)
  have l0 := Int.emod_nonneg U (show yn1 ≠ 0 by omega)
  have hq := h.nn
  have hn := h.near
  have hf := h.first
  have c1 := h.u0
  have c2 := h.u1
  have c3 := h.Ylt
  have c4 := h.b1
  rw [Int.mul_comm] at e
  have m := Int.mul_nonneg hq (show 0 ≤ yn1 by omega)
  have k1 : (U - (U / yn1 * yn1) % 18446744073709551616) % 18446744073709551616 = U - U / yn1 * yn1 := by
    generalize U / yn1 * yn1 = p at *
    omega
  rw [k1]
  exact ⟨by omega, hf, hq, hn, by omega, by omega⟩

theorem HL.test (h : Half Y yn1 yn0 U un1) {q r : Int} (k : HL Y yn1 U un1 q r) : 0 ≤ q * yn0 ∧ q * yn0 ≤ 18446744073709551615 := by
  have := Int.mul_nonneg k.q0 h.a0
  have := Int.mul_le_mul_of_nonneg_right k.q1 h.a0
  have := h.a1
  omega

theorem HL.done (h : Half Y yn1 yn0 U un1) {q r : Int} (k : HL Y yn1 U un1 q r) (hn : q * yn0 ≤ 4294967296 * r + un1) : q = (U * 4294967296 + un1) / Y := h.small k.e k.lo hn

/-- one down -/
theorem HL.down (h : Half Y yn1 yn0 U un1) {q r : Int} (k : HL Y yn1 U un1 q r) (ht : 4294967296 ≤ q ∨ 4294967296 * r + un1 < q * yn0) :
    (q - 1) * yn1 + (r + yn1) = U ∧ (U * 4294967296 + un1) / Y ≤ q - 1 ∧ 0 ≤ q - 1 ∧ q - 1 ≤ 4294967296 := by
  have h1 : (U * 4294967296 + un1) / Y ≤ q - 1 := by
    rcases ht with ht | ht
    · have := h.Qlt; omega
    · exact h.great k.e ht
  have := h.Qnn
  have := k.q1
  refine ⟨?_, h1, by omega, by omega⟩
  rw [← k.e]; grind

theorem HL.stop (h : Half Y yn1 yn0 U un1) {q r : Int} (k : HL Y yn1 U un1 q r) (ht : 4294967296 ≤ q ∨ 4294967296 * r + un1 < q * yn0) (hr : 4294967296 ≤ r + yn1) : q - 1 = (U * 4294967296 + un1) / Y := by
  obtain ⟨d1, d2, d3, d4⟩ := k.down h ht
  exact h.small d1 d2 (h.left hr d4)

theorem HL.next (h : Half Y yn1 yn0 U un1) {q r : Int} (k : HL Y yn1 U un1 q r) (ht : 4294967296 ≤ q ∨ 4294967296 * r + un1 < q * yn0) (hr : r + yn1 < 4294967296) : HL Y yn1 U un1 (q - 1) (r + yn1) := by
  obtain ⟨d1, d2, d3, d4⟩ := k.down h ht
  have := k.r0
  have := h.b0
  exact ⟨d1, d2, d3, by omega, by omega, by omega⟩


theorem un21 (h : Half Y yn1 yn0 U un1) : (((U * 4294967296) % 18446744073709551616 + un1) % 18446744073709551616 - ((U * 4294967296 + un1) / Y * Y) % 18446744073709551616) % 18446744073709551616 = (U * 4294967296 + un1) % Y := by
  have r := rest Y U un1
  have r0 := h.rest_nn
  have r1 := h.rest_lt
  have r2 := h.Ylt
  generalize (U * 4294967296 + un1) / Y * Y = p at *
  omega

/-- the second half's numbers -/
theorem Half.second (h : Half Y yn1 yn0 U un1) (un0 : Int) (v0 : 0 ≤ un0) (v1 : un0 ≤ 4294967295) : Half Y yn1 yn0 ((U * 4294967296 + un1) % Y) un0 :=
  ⟨h.y, h.a0, h.a1, h.b0, h.b1, h.rest_nn, h.rest_lt, v0, v1⟩

end Go.Proofs.DivPure
