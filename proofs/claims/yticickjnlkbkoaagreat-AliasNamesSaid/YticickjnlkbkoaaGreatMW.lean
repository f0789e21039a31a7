/- Words. -/
import Derived.WalkKit
import Derived.WalkLawsBesides
import Derived.WalkSpells
import Derived.Shelf.Spec.BitsCarry
import Derived.Lib.Mul64
import Derived.Outline
import Derived.Deep.DeepCutAuto
import Derived.Deep.LoopGhost
import Derived.Deep.CutBlock
import Derived.Deep.Light
import Derived.Deep.QuietTactic
import Derived.BigQuiet
import Derived.Lib.Hide
import Derived.Laws.Bits64b
import Derived.Laws.MathBits
import Derived.Test.YticickjnlkbkoaaGreatProg
/- Plain arithmetic: the two halves of a division of two words by one, as math-bits does it: no program in sight. -/
namespace Go.Proofs.DivPure

abbrev B : Int := 4294967296

/-- what a half of the division knows -/
structure Half (Y yn1 yn0 U un1 : Int) : Prop where
  y : Y = yn1 * 4294967296 + yn0
  a0 : 0 ≤ yn0
  a1 : yn0 ≤ 4294967295
  b0 : 2147483648 ≤ yn1
  b1 : yn1 ≤ 4294967295
  u0 : 0 ≤ U
  u1 : U < Y
  v0 : 0 ≤ un1
  v1 : un1 ≤ 4294967295

variable {Y yn1 yn0 U un1 : Int}

theorem Half.Ypos (h : Half Y yn1 yn0 U un1) : 0 < Y := by
  have := h.y; have := h.a0; have := h.b0; omega

theorem Half.Ylt (h : Half Y yn1 yn0 U un1) : Y ≤ 18446744073709551615 := by
  have := h.y; have := h.a1; have := h.b1; omega

theorem Half.Qlt (h : Half Y yn1 yn0 U un1) : (U * 4294967296 + un1) / Y < 4294967296 := by
  apply Int.ediv_lt_of_lt_mul h.Ypos
  have := h.u1; have := h.v1; omega

theorem Half.Qnn (h : Half Y yn1 yn0 U un1) : 0 ≤ (U * 4294967296 + un1) / Y := by
  apply Int.ediv_nonneg
  · have := h.u0; have := h.v0; omega
  · have := h.Ypos; omega

theorem Half.nn0 (h : Half Y yn1 yn0 U un1) (hb : 2147483648 ≤ yn1) (q : Int) (e : yn1 * q + U % yn1 = U) : 0 ≤ q := by
  have l := Int.emod_lt_of_pos U (show 0 < yn1 by omega)
  have h0 := h.u0
  by_cases hq : 0 ≤ q
  · exact hq
  · have : yn1 * q ≤ yn1 * (-1) := Int.mul_le_mul_of_nonneg_left (by omega) (by omega)
    omega

/-- the first guess is not too small -/
theorem Half.first (h : Half Y yn1 yn0 U un1) : (U * 4294967296 + un1) / Y ≤ U / yn1 := by
  have hb := h.b0
  apply Int.le_of_lt_add_one
  apply Int.ediv_lt_of_lt_mul h.Ypos
  have e := Int.mul_ediv_add_emod U yn1
  have l := Int.emod_lt_of_pos U (show 0 < yn1 by omega)
  generalize U / yn1 = q at *
  have hq : 0 ≤ q + 1 := by
    have h0 := h.nn0 hb q e
    omega
  have h1 : U < yn1 * (q + 1) := by rw [Int.mul_add]; omega
  have h2 : (q + 1) * Y = (yn1 * (q + 1)) * 4294967296 + (q + 1) * yn0 := by rw [h.y]; grind
  rw [h2]
  have h3 := Int.mul_nonneg hq h.a0
  have := h.v1
  omega

/-- .. and not far too great -/
theorem Half.near (h : Half Y yn1 yn0 U un1) : U / yn1 ≤ 4294967297 := by
  have hb := h.b0
  apply Int.le_of_lt_add_one
  apply Int.ediv_lt_of_lt_mul (by omega)
  have := h.y; have := h.u1; have := h.a1; omega

theorem Half.nn (h : Half Y yn1 yn0 U un1) : 0 ≤ U / yn1 := Int.ediv_nonneg h.u0 (by have := h.b0; omega)

theorem Half.key (h : Half Y yn1 yn0 U un1) {q r : Int} (e : q * yn1 + r = U) : q * Y = U * 4294967296 - 4294967296 * r + q * yn0 := by
  rw [h.y, ← e]; grind

theorem Half.small (h : Half Y yn1 yn0 U un1) {q r : Int} (e : q * yn1 + r = U) (hq : (U * 4294967296 + un1) / Y ≤ q) (hn : q * yn0 ≤ 4294967296 * r + un1) : q = (U * 4294967296 + un1) / Y := by
  apply Int.le_antisymm _ hq
  apply (Int.le_ediv_iff_mul_le h.Ypos).2
  rw [h.key e]; omega

theorem Half.great (h : Half Y yn1 yn0 U un1) {q r : Int} (e : q * yn1 + r = U) (hn : 4294967296 * r + un1 < q * yn0) : (U * 4294967296 + un1) / Y ≤ q - 1 := by
  have : (U * 4294967296 + un1) / Y < q := by
    apply Int.ediv_lt_of_lt_mul h.Ypos
    rw [h.key e]; omega
  omega

theorem Half.mulB (h : Half Y yn1 yn0 U un1) {q : Int} (hq : q ≤ 4294967297) : q * yn0 ≤ 4294967297 * yn0 := Int.mul_le_mul_of_nonneg_right hq h.a0

theorem Half.left (h : Half Y yn1 yn0 U un1) {q r : Int} (hr : 4294967296 ≤ r) (hq : q ≤ 4294967296) : q * yn0 ≤ 4294967296 * r + un1 := by
  have := Int.mul_le_mul_of_nonneg_right hq h.a0
  have := h.a1; have := h.v0; omega

/-- what is left behind a half -/
theorem rest (Y U un1 : Int) : U * 4294967296 + un1 - (U * 4294967296 + un1) / Y * Y = (U * 4294967296 + un1) % Y := by
  have := Int.mul_ediv_add_emod (U * 4294967296 + un1) Y
  rw [Int.mul_comm Y] at this; omega

theorem Half.rest_nn (h : Half Y yn1 yn0 U un1) : 0 ≤ (U * 4294967296 + un1) % Y := Int.emod_nonneg _ (by have := h.Ypos; omega)
theorem Half.rest_lt (h : Half Y yn1 yn0 U un1) : (U * 4294967296 + un1) % Y < Y := Int.emod_lt_of_pos _ h.Ypos

/-- two halves are the whole -/
theorem whole (Y U un1 un0 : Int) (hY : 0 < Y) :
    (U * 4294967296 + un1) / Y * 4294967296 + ((U * 4294967296 + un1) % Y * 4294967296 + un0) / Y = (U * 18446744073709551616 + un1 * 4294967296 + un0) / Y ∧
    ((U * 4294967296 + un1) % Y * 4294967296 + un0) % Y = (U * 18446744073709551616 + un1 * 4294967296 + un0) % Y := by
  have e := Int.mul_ediv_add_emod (U * 4294967296 + un1) Y
  generalize (U * 4294967296 + un1) / Y = q at *
  generalize (U * 4294967296 + un1) % Y = r at *
  have h : U * 18446744073709551616 + un1 * 4294967296 + un0 = (r * 4294967296 + un0) + Y * (q * 4294967296) := by
    have : U * 18446744073709551616 + un1 * 4294967296 = (U * 4294967296 + un1) * 4294967296 := by omega
    rw [this, ← e]; grind
  rw [h, Int.add_mul_ediv_left _ _ (by omega), Int.add_mul_emod_self_left]
  exact ⟨by omega, rfl⟩

/-- shifted by so many places it is the same quotient; what is left is shifted -/
theorem scaled (x y k : Int) (hk : 0 < k) : (x * k) / (y * k) = x / y ∧ (x * k) % (y * k) = (x % y) * k :=
  ⟨Int.mul_ediv_mul_of_pos_left _ _ hk, by rw [Int.mul_comm x k, Int.mul_comm y k, Int.mul_emod_mul_of_pos _ _ hk, Int.mul_comm]⟩


/-- what holds at the head of a half's loop -/
structure HL (Y yn1 U un1 q r : Int) : Prop where
  e : q * yn1 + r = U
  lo : (U * 4294967296 + un1) / Y ≤ q
  q0 : 0 ≤ q
  q1 : q ≤ 4294967297
  r0 : 0 ≤ r
  r1 : r ≤ 4294967295

theorem HL.start (h : Half Y yn1 yn0 U un1) : HL Y yn1 U un1 (U / yn1) ((U - (U / yn1 * yn1) % 18446744073709551616) % 18446744073709551616) := by
  have e := Int.mul_ediv_add_emod U yn1
  have hb := h.b0
  have l := Int.emod_lt_of_pos U (show 0 < yn1 by omega)
  have l0 := Int.emod_nonneg U (show yn1 ≠ 0 by omega)
  have hq := h.nn
  have hn := h.near
  have hf := h.first
  have c1 := h.u0
  have c2 := h.u1
  have c3 := h.Ylt
  have c4 := h.b1
  rw [Int.mul_comm] at e
  have m := Int.mul_nonneg hq (show 0 ≤ yn1 by omega)
  have k1 : (U - (U / yn1 * yn1) % 18446744073709551616) % 18446744073709551616 = U - U / yn1 * yn1 := by
    generalize U / yn1 * yn1 = p at *
    omega
  rw [k1]
  exact ⟨by omega, hf, hq, hn, by omega, by omega⟩

theorem HL.test (h : Half Y yn1 yn0 U un1) {q r : Int} (k : HL Y yn1 U un1 q r) : 0 ≤ q * yn0 ∧ q * yn0 ≤ 18446744073709551615 := by
  have := Int.mul_nonneg k.q0 h.a0
  have := Int.mul_le_mul_of_nonneg_right k.q1 h.a0
  have := h.a1
  omega

theorem HL.done (h : Half Y yn1 yn0 U un1) {q r : Int} (k : HL Y yn1 U un1 q r) (hn : q * yn0 ≤ 4294967296 * r + un1) : q = (U * 4294967296 + un1) / Y := h.small k.e k.lo hn

/-- one down -/
theorem HL.down (h : Half Y yn1 yn0 U un1) {q r : Int} (k : HL Y yn1 U un1 q r) (ht : 4294967296 ≤ q ∨ 4294967296 * r + un1 < q * yn0) :
    (q - 1) * yn1 + (r + yn1) = U ∧ (U * 4294967296 + un1) / Y ≤ q - 1 ∧ 0 ≤ q - 1 ∧ q - 1 ≤ 4294967296 := by
  have h1 : (U * 4294967296 + un1) / Y ≤ q - 1 := by
    rcases ht with ht | ht
    · have := h.Qlt; omega
    · exact h.great k.e ht
  have := h.Qnn
  have := k.q1
  refine ⟨?_, h1, by omega, by omega⟩
  rw [← k.e]; grind

theorem HL.stop (h : Half Y yn1 yn0 U un1) {q r : Int} (k : HL Y yn1 U un1 q r) (ht : 4294967296 ≤ q ∨ 4294967296 * r + un1 < q * yn0) (hr : 4294967296 ≤ r + yn1) : q - 1 = (U * 4294967296 + un1) / Y := by
  obtain ⟨d1, d2, d3, d4⟩ := k.down h ht
  exact h.small d1 d2 (h.left hr d4)

theorem HL.next (h : Half Y yn1 yn0 U un1) {q r : Int} (k : HL Y yn1 U un1 q r) (ht : 4294967296 ≤ q ∨ 4294967296 * r + un1 < q * yn0) (hr : r + yn1 < 4294967296) : HL Y yn1 U un1 (q - 1) (r + yn1) := by
  obtain ⟨d1, d2, d3, d4⟩ := k.down h ht
  have := k.r0
  have := h.b0
  exact ⟨d1, d2, d3, by omega, by omega, by omega⟩


theorem un21 (h : Half Y yn1 yn0 U un1) : (((U * 4294967296) % 18446744073709551616 + un1) % 18446744073709551616 - ((U * 4294967296 + un1) / Y * Y) % 18446744073709551616) % 18446744073709551616 = (U * 4294967296 + un1) % Y := by
  have r := rest Y U un1
  have r0 := h.rest_nn
  have r1 := h.rest_lt
  have r2 := h.Ylt
  generalize (U * 4294967296 + un1) / Y * Y = p at *
  omega

/-- the second half's numbers -/
theorem Half.second (h : Half Y yn1 yn0 U un1) (un0 : Int) (v0 : 0 ≤ un0) (v1 : un0 ≤ 4294967295) : Half Y yn1 yn0 ((U * 4294967296 + un1) % Y) un0 :=
  ⟨h.y, h.a0, h.a1, h.b0, h.b1, h.rest_nn, h.rest_lt, v0, v1⟩

end Go.Proofs.DivPure
/- Plain facts on 64-bit words that the walks of package word lean on: no program in sight. -/
namespace Go.Proofs.W
open Go.RowKit
set_option linter.unusedVariables false

def bor (x y : Int) : Int := if x < y then 1 else 0

theorem bor_le (x y : Int) : 0 ≤ bor x y ∧ bor x y ≤ 1 := by unfold bor; split <;> omega

theorem ret_int {k : IntKind} {a b : Int} (h : a = b) : Ending.returned (.int k a) = .returned (.int k b) := by rw [h]

theorem val_int {k : IntKind} {a b : Int} (h : a = b) : Value.int k a = .int k b := by rw [h]
theorem ret2 {k l : IntKind} {a a' b b' : Int} (h : a = a') (h' : b = b') : Ending.returned (.tuple #[.int k a, .int l b]) = .returned (.tuple #[.int k a', .int l b']) := by rw [h, h']
theorem ret3 {k l m : IntKind} {a a' b b' c c' : Int} (h : a = a') (h' : b = b') (h'' : c = c') : Ending.returned (.tuple #[.int k a, .int l b, .int m c]) = .returned (.tuple #[.int k a', .int l b', .int m c']) := by rw [h, h', h'']
theorem ret_bool {a b : Bool} (h : a = b) : Ending.returned (.bool a) = .returned (.bool b) := by rw [h]

/-- a carry as it counts -/
def cry (c : Int) : Int := min c 1
theorem cry_le (c : Int) (h0 : 0 ≤ c) : 0 ≤ cry c ∧ cry c ≤ 1 := by unfold cry; omega

theorem maskN (a : Nat) (ha : a < 18446744073709551616) : bits .and .u64 (a : Int) 4294967295 = ((a % 4294967296 : Nat) : Int) := by
  have h := bits_and_u64_nat a 4294967295 ha (by omega)
  have e : a &&& 4294967295 = a % 4294967296 := Nat.and_two_pow_sub_one_eq_mod a 32
  rw [e] at h
  exact h
theorem divN (a : Nat) : (a : Int) / 4294967296 = ((a / 4294967296 : Nat) : Int) := by omega
theorem mulN (a b : Nat) : (a : Int) * (b : Int) = ((a * b : Nat) : Int) := (Int.natCast_mul a b).symm
theorem addN (a b : Nat) : (a : Int) + (b : Int) = ((a + b : Nat) : Int) := (Int.natCast_add a b).symm
theorem wrapN (a : Nat) (ha : a < 18446744073709551616) : IntKind.u64.wrap (a : Int) = (a : Int) := by rw [IntKind.wrap_u64]; omega
theorem wrapM (a : Nat) : IntKind.u64.wrap (a : Int) = ((a % 18446744073709551616 : Nat) : Int) := by rw [IntKind.wrap_u64]; omega

theorem len_way (X D b k : Nat) (hb : D = 2 ^ b) (h0 : X / D ≠ 0) (h8 : X / D < 256) (hk : b ≤ 56) (i : Nat) (hi : i = X / D) (hk' : k = b) : wrap64 ((k : Int) + wrap64 ((bitLen i : Nat) : Int)) = ((bitLen X : Nat) : Int) := by
  subst hb; subst hi; subst hk'
  have h := bitLen_shift X k h0
  have l := bitLen_le8 _ h8
  have e1 : wrap64 ((bitLen (X / 2 ^ k) : Nat) : Int) = (bitLen (X / 2 ^ k) : Nat) := by unfold wrap64; omega
  rw [e1, h]; unfold wrap64; omega
theorem len_way0 (X i : Nat) (h8 : X < 256) (hi : i = X) : wrap64 (wrap64 ((bitLen i : Nat) : Int)) = ((bitLen X : Nat) : Int) := by
  subst hi
  have l := bitLen_le8 _ h8
  have e1 : wrap64 ((bitLen i : Nat) : Int) = (bitLen i : Nat) := by unfold wrap64; omega
  rw [e1, e1]

theorem bitLen_64 (x : Nat) (h : x < 18446744073709551616) : bitLen x ≤ 64 := by
  unfold bitLen; split
  · omega
  · rename_i h0
    have := (Nat.log2_lt h0).2 (show x < 2 ^ 64 from h)
    omega

theorem u64_or_join (a b i : Nat) (h : b < 2 ^ i) (hs : a * 2 ^ i + b < 18446744073709551616) : bits BinOp.or IntKind.u64 ((a * 2 ^ i : Nat) : Int) (b : Int) = ((a * 2 ^ i + b : Nat) : Int) := by
  rw [bits_or_u64_nat _ _ (by omega) (by omega), Nat.mul_comm, Nat.two_pow_add_eq_or_of_lt h]

structure Norm (a b y : Int) (n : Nat) (Y yn1 yn0 U L un1 un0 : Int) : Prop where
  n1 : n ≤ 63
  ey : IntKind.u64.wrap (y * 2 ^ n) = Y
  ey1 : Y / 4294967296 = yn1
  ey0 : bits BinOp.and IntKind.u64 Y 4294967295 = yn0
  eu : bits BinOp.or IntKind.u64 (IntKind.u64.wrap (a * 2 ^ n)) (b / 2 ^ (64 - n)) = U
  el : IntKind.u64.wrap (b * 2 ^ n) = L
  eu1 : L / 4294967296 = un1
  eu0 : bits BinOp.and IntKind.u64 L 4294967295 = un0
  h1 : DivPure.Half Y yn1 yn0 U un1
  v0 : 0 ≤ un0
  v1 : un0 ≤ 4294967295
  q : (U * 18446744073709551616 + un1 * 4294967296 + un0) / Y = (a * 18446744073709551616 + b) / y
  r : (U * 18446744073709551616 + un1 * 4294967296 + un0) % Y / 2 ^ n = (a * 18446744073709551616 + b) % y

theorem castq (U M u1 K u0 Y a b y : Nat) (h : (U * M + u1 * K + u0) / Y = (a * M + b) / y) : ((U : Int) * (M : Int) + (u1 : Int) * (K : Int) + (u0 : Int)) / (Y : Int) = ((a : Int) * (M : Int) + (b : Int)) / (y : Int) := by
  exact_mod_cast h
theorem castr (U M u1 K u0 Y a b y P : Nat) (h : (U * M + u1 * K + u0) % Y / P = (a * M + b) % y) : ((U : Int) * (M : Int) + (u1 : Int) * (K : Int) + (u0 : Int)) % (Y : Int) / (P : Int) = ((a : Int) * (M : Int) + (b : Int)) % (y : Int) := by
  exact_mod_cast h

theorem norm (a b y : Nat) (b1 : b < 18446744073709551616) (ay : a < y) (y1 : y < 18446744073709551616) :
    ∃ n, 64 - bitLen y = n ∧ ∃ Y yn1 yn0 U L un1 un0, Norm (a : Int) (b : Int) (y : Int) n Y yn1 yn0 U L un1 un0 := by
  have hl := bitLen_64 y y1
  obtain ⟨s1, s2⟩ := bitLen_spec y
  have s2 := s2 (by omega)
  have hb1 : 1 ≤ bitLen y := by
    rcases Nat.eq_zero_or_pos (bitLen y) with h | h
    · rw [h] at s1; simp at s1; omega
    · exact h
  refine ⟨64 - bitLen y, rfl, ?_⟩
  have hn : (64 - bitLen y) + bitLen y = 64 := by omega
  generalize hN : 64 - bitLen y = n at *
  generalize bitLen y = m at *
  have hp : 2 ^ n * 2 ^ m = 18446744073709551616 := by rw [← Nat.pow_add, hn]
  have hm : 2 ^ m = 2 * 2 ^ (m - 1) := by rw [← Nat.pow_succ']; congr 1; omega
  have hnm : 64 - n = m := by omega
  have p0 : 0 < 2 ^ n := Nat.two_pow_pos n
  have y2 : y * 2 ^ n < 18446744073709551616 := by
    rw [← hp, Nat.mul_comm]; exact Nat.mul_lt_mul_of_pos_left s1 p0
  have y3 : 9223372036854775808 ≤ y * 2 ^ n := by
    have : 2 ^ (m - 1) * 2 ^ n ≤ y * 2 ^ n := Nat.mul_le_mul_right _ s2
    have : 2 ^ m * 2 ^ n = 2 * (2 ^ (m - 1) * 2 ^ n) := by rw [hm]; simp [Nat.mul_assoc]
    have : 2 ^ m * 2 ^ n = 18446744073709551616 := by rw [Nat.mul_comm]; exact hp
    omega
  have a2 : a * 2 ^ n + 2 ^ n ≤ y * 2 ^ n := by rw [← Nat.succ_mul]; exact Nat.mul_le_mul_right _ ay
  have b2 : b / 2 ^ m < 2 ^ n := by rw [Nat.div_lt_iff_lt_mul (Nat.two_pow_pos m), hp]; exact b1
  have b3 : b * 2 ^ n = b / 2 ^ m * 18446744073709551616 + b * 2 ^ n % 18446744073709551616 := by
    have e1 := Nat.div_add_mod (b * 2 ^ n) 18446744073709551616
    have e2 : b * 2 ^ n / 18446744073709551616 = b / 2 ^ m := by rw [← hp, Nat.mul_comm b, Nat.mul_div_mul_left _ _ p0]
    rw [e2] at e1; omega
  have c1 : ((2 : Int) ^ n) = ((2 ^ n : Nat) : Int) := by simp
  have c2 : ((2 : Int) ^ m) = ((2 ^ m : Nat) : Int) := by simp
  have eU : bits BinOp.or IntKind.u64 (IntKind.u64.wrap ((a : Int) * 2 ^ n)) ((b : Int) / 2 ^ m) = ((a * 2 ^ n + b / 2 ^ m : Nat) : Int) := by
    rw [c1, c2, mulN, wrapN _ (by omega), show ((b : Int) / ((2 ^ m : Nat) : Int)) = ((b / 2 ^ m : Nat) : Int) by simp]
    exact u64_or_join a (b / 2 ^ m) n b2 (by omega)
  have eL : IntKind.u64.wrap ((b : Int) * 2 ^ n) = ((b * 2 ^ n % 18446744073709551616 : Nat) : Int) := by
    rw [c1, mulN, wrapM]
  have eY : IntKind.u64.wrap ((y : Int) * 2 ^ n) = ((y * 2 ^ n : Nat) : Int) := by
    rw [c1, mulN, wrapN _ y2]
  have eY0 := maskN (y * 2 ^ n) y2
  have eL0 := maskN (b * 2 ^ n % 18446744073709551616) (by omega)
  have tot : (a * 2 ^ n + b / 2 ^ m) * 18446744073709551616 + (b * 2 ^ n % 18446744073709551616) / 4294967296 * 4294967296 + (b * 2 ^ n % 18446744073709551616) % 4294967296 = (a * 18446744073709551616 + b) * 2 ^ n := by
    have d := Nat.div_add_mod (b * 2 ^ n % 18446744073709551616) 4294967296
    have e : (a * 18446744073709551616 + b) * 2 ^ n = a * 2 ^ n * 18446744073709551616 + b * 2 ^ n := by rw [Nat.add_mul, Nat.mul_right_comm]
    rw [e]
    generalize a * 2 ^ n = A at *
    generalize b * 2 ^ n % 18446744073709551616 = C at *
    omega
  have tq : ((a * 18446744073709551616 + b) * 2 ^ n) / (y * 2 ^ n) = (a * 18446744073709551616 + b) / y := Nat.mul_div_mul_right _ _ p0
  have tr : ((a * 18446744073709551616 + b) * 2 ^ n) % (y * 2 ^ n) / 2 ^ n = (a * 18446744073709551616 + b) % y := by
    rw [Nat.mul_mod_mul_right, Nat.mul_div_cancel _ p0]
  rw [← tot] at tq tr
  have tq' : (((a * 2 ^ n + b / 2 ^ m : Nat) : Int) * 18446744073709551616 + ((b * 2 ^ n % 18446744073709551616 / 4294967296 : Nat) : Int) * 4294967296 + ((b * 2 ^ n % 18446744073709551616 % 4294967296 : Nat) : Int)) / ((y * 2 ^ n : Nat) : Int) = ((a : Int) * 18446744073709551616 + b) / y := castq _ _ _ _ _ _ _ _ _ tq
  have tr' : (((a * 2 ^ n + b / 2 ^ m : Nat) : Int) * 18446744073709551616 + ((b * 2 ^ n % 18446744073709551616 / 4294967296 : Nat) : Int) * 4294967296 + ((b * 2 ^ n % 18446744073709551616 % 4294967296 : Nat) : Int)) % ((y * 2 ^ n : Nat) : Int) / 2 ^ n = ((a : Int) * 18446744073709551616 + b) % y := by rw [c1]; exact castr _ _ _ _ _ _ _ _ _ _ tr
  rw [← hnm] at eU
  exact ⟨_, ((y * 2 ^ n / 4294967296 : Nat) : Int), _, ((a * 2 ^ n + b / 2 ^ m : Nat) : Int), _, ((b * 2 ^ n % 18446744073709551616 / 4294967296 : Nat) : Int), _, ⟨by omega, eY, by omega, eY0, by rw [← hnm] at *; exact eU, eL, by omega, eL0, ⟨by omega, by omega, by omega, by omega, by omega, by omega, by omega, by omega, by omega⟩, by omega, by omega, tq', tr'⟩⟩
structure LenAt (a x : Int) (n j : Nat) (b : Int) : Prop where
  len : bitLen a.toNat = n + bitLen x.toNat
  x0 : 0 ≤ x
  at' : (j = 6 ∧ b = 32 ∧ x ≤ 18446744073709551615 ∧ n = 0) ∨ (j = 5 ∧ b = 16 ∧ x < 4294967296 ∧ n ≤ 32) ∨ (j = 4 ∧ b = 8 ∧ x < 65536 ∧ n ≤ 48) ∨ (j = 3 ∧ b = 4 ∧ x < 256 ∧ n ≤ 56) ∨ (j = 2 ∧ b = 2 ∧ x < 16 ∧ n ≤ 60) ∨ (j = 1 ∧ b = 1 ∧ x < 4 ∧ n ≤ 62) ∨ (j = 0 ∧ b = 0 ∧ x < 2 ∧ n ≤ 63)

theorem bitLen_small (x : Int) (h0 : 0 ≤ x) (h : x < 2) : (bitLen x.toNat : Int) = x := by
  have : x = 0 ∨ x = 1 := by omega
  rcases this with rfl | rfl <;> decide

theorem LenAt.up {a x : Int} {n : Nat} (l : bitLen a.toNat = n + bitLen x.toNat) (x0 : 0 ≤ x) (b : Nat) (D : Int) (hD : D = 2 ^ b) (h : x / D ≠ 0) : bitLen a.toNat = (n + b) + bitLen (x / D).toNat := by
  subst hD
  obtain ⟨x, rfl⟩ := Int.eq_ofNat_of_zero_le x0
  have e : ((x : Int) / 2 ^ b).toNat = x / 2 ^ b := by
    rw [show ((2 : Int) ^ b) = ((2 ^ b : Nat) : Int) by simp, ← Int.natCast_ediv, Int.toNat_natCast]
  have h' : x / 2 ^ b ≠ 0 := by
    intro h0; apply h
    rw [show ((2 : Int) ^ b) = ((2 ^ b : Nat) : Int) by simp, ← Int.natCast_ediv, h0]; rfl
  rw [l, e, Int.toNat_natCast, bitLen_shift x b h']; omega

theorem pow_cast (n : Nat) : ((2 : Int) ^ n) = ((2 ^ n : Nat) : Int) := by simp

theorem pow_split (n : Nat) (h : n ≤ 64) : 2 ^ n * 2 ^ (64 - n) = 18446744073709551616 := by rw [← Nat.pow_add, show n + (64 - n) = 64 by omega]

theorem shl_high (a n : Nat) (h : n ≤ 64) : (a : Int) / 2 ^ (64 - n) = ((a * 2 ^ n / 18446744073709551616 : Nat) : Int) := by
  rw [pow_cast, ← Int.natCast_ediv, ← pow_split n h, Nat.mul_comm a, Nat.mul_div_mul_left _ _ (Nat.two_pow_pos n)]

theorem shl_low (a n : Nat) : IntKind.u64.wrap ((a : Int) * 2 ^ n) = ((a * 2 ^ n % 18446744073709551616 : Nat) : Int) := by
  rw [pow_cast, mulN, wrapM]

theorem shr_word (a b n : Nat) (hb : b < 18446744073709551616) (h : n ≤ 64) :
    bits BinOp.or IntKind.u64 (IntKind.u64.wrap ((a : Int) * 2 ^ (64 - n))) ((b : Int) / 2 ^ n) = (((a * 18446744073709551616 + b) / 2 ^ n % 18446744073709551616 : Nat) : Int) := by
  have p := pow_split n h
  have p0 := Nat.two_pow_pos n
  have p1 := Nat.two_pow_pos (64 - n)
  have e1 : (a * 18446744073709551616 + b) / 2 ^ n = a * 2 ^ (64 - n) + b / 2 ^ n := by
    rw [← p, Nat.mul_left_comm, Nat.add_comm, Nat.add_mul_div_left _ _ p0, Nat.add_comm]
  have b2 : b / 2 ^ n < 2 ^ (64 - n) := by rw [Nat.div_lt_iff_lt_mul p0, Nat.mul_comm, p]; exact hb
  have e2 : a * 2 ^ (64 - n) % 18446744073709551616 = (a % 2 ^ n) * 2 ^ (64 - n) := by rw [← p, Nat.mul_mod_mul_right]
  have e3 : (a % 2 ^ n) * 2 ^ (64 - n) + 2 ^ (64 - n) ≤ 18446744073709551616 := by
    rw [← p, ← Nat.succ_mul]; exact Nat.mul_le_mul_right _ (Nat.mod_lt _ p0)
  rw [shl_low, e1, e2, pow_cast, ← Int.natCast_ediv, u64_or_join _ _ _ b2 (by generalize 2 ^ (64 - n) = P at *; generalize a % 2 ^ n * P = C at *; generalize b / 2 ^ n = D at *; omega)]
  congr 1
  generalize a * 2 ^ (64 - n) = A at *
  generalize a % 2 ^ n * 2 ^ (64 - n) = C at *
  generalize b / 2 ^ n = D at *
  generalize 2 ^ (64 - n) = P at *
  omega

theorem shl_highI (a : Int) (n : Nat) (a0 : 0 ≤ a) (h : n ≤ 64) : a / 2 ^ (64 - n) = a * 2 ^ n / 18446744073709551616 := by
  obtain ⟨a, rfl⟩ := Int.eq_ofNat_of_zero_le a0
  rw [shl_high a n h, pow_cast]; simp
theorem shl_lowI (a : Int) (n : Nat) : IntKind.u64.wrap (a * 2 ^ n) = a * 2 ^ n % 18446744073709551616 := by rw [IntKind.wrap_u64]
theorem shr_wordI (a b : Int) (n : Nat) (a0 : 0 ≤ a) (b0 : 0 ≤ b) (b1 : b ≤ 18446744073709551615) (h : n ≤ 64) :
    bits BinOp.or IntKind.u64 (IntKind.u64.wrap (a * 2 ^ (64 - n))) (b / 2 ^ n) = (a * 18446744073709551616 + b) / 2 ^ n % 18446744073709551616 := by
  obtain ⟨a, rfl⟩ := Int.eq_ofNat_of_zero_le a0
  obtain ⟨b, rfl⟩ := Int.eq_ofNat_of_zero_le b0
  rw [shr_word a b n (by omega) h, pow_cast]; simp
end Go.Proofs.W
/- The contracts of word.Add and word.Sub: sums and differences of words, with what is carried. The arguments are words. -/
namespace Go.Proofs.W
open Go.RowKit
set_option linter.unusedVariables false

theorem add64 (x y c : Int) (hx : 0 ≤ x) (hy : 0 ≤ y) (hc0 : 0 ≤ c) (hc : c ≤ 1) (w : World) : (callFunc 94 #[.int .u64 x, .int .u64 y, .int .u64 c]).run Tryz.prog w =
    .ok (.value (.tuple #[.int .u64 ((x + y + c) % 18446744073709551616), .int .u64 ((x + y + c) / 18446744073709551616)])) w := by
  rw [run_callFunc_extern Tryz.func94 (by kernel_rfl) (by kernel_rfl) (by kernel_rfl) (e := add64Entry) (by kernel_rfl), run_add64 x y c hx hy hc0 hc]
  rfl

theorem sub64 (x y b : Int) (hx : 0 ≤ x) (hy : 0 ≤ y) (hy' : y ≤ 18446744073709551615) (hb0 : 0 ≤ b) (hb : b ≤ 1) (w : World) : (callFunc 103 #[.int .u64 x, .int .u64 y, .int .u64 b]).run Tryz.prog w =
    .ok (.value (.tuple #[.int .u64 ((x - y - b) % 18446744073709551616), .int .u64 (bor x (y + b))])) w := by
  obtain ⟨x, rfl⟩ := Int.eq_ofNat_of_zero_le hx
  obtain ⟨y, rfl⟩ := Int.eq_ofNat_of_zero_le hy
  obtain ⟨b, rfl⟩ := Int.eq_ofNat_of_zero_le hb0
  have e1 : (((x + 18446744073709551616 - y - b) % 18446744073709551616 : Nat) : Int) = ((x : Int) - y - b) % 18446744073709551616 := by omega
  have e2 : ((if x < y + b then 1 else 0 : Nat) : Int) = bor x (y + b) := by unfold bor; split <;> split <;> omega
  rw [← e1, ← e2]
  rw [run_callFunc_extern Tryz.func103 (by kernel_rfl) (by kernel_rfl) (by kernel_rfl) (e := sub64Entry) (by kernel_rfl), run_sub64 x y b (by omega)]
  rfl

theorem one (c : Int) (_h0 : 0 ≤ c) (_h1 : c ≤ 18446744073709551615) (w : World) :
    Calls Tryz.prog 95 #[.int .u64 c] w fun e w' => e = .returned (.int .u64 (cry c)) ∧ w = w' := by
  go_enter Tryz.func95, Tryz.ntmps95
  go_wp2
  all_goals (go_ret; exact ⟨ret_int (by simp only [cry]; omega), rfl⟩)

theorem add (a b c : Int) (a0 : 0 ≤ a) (b0 : 0 ≤ b) (c0 : 0 ≤ c) (c1 : c ≤ 18446744073709551615) (w : World) :
    Calls Tryz.prog 71 #[.int .u64 a, .int .u64 b, .int .u64 c] w fun e w' =>
      e = .returned (.tuple #[.int .u64 ((a + b + cry c) % 18446744073709551616), .int .u64 ((a + b + cry c) / 18446744073709551616)]) ∧ w = w' := by
  have ⟨k0, k1⟩ := cry_le c c0
  go_enter Tryz.func71, Tryz.ntmps71
  go_wp2_with (first | (go_at_call 95; refine (one c c0 c1 _).mono ?_; rintro e w' ⟨rfl, rfl⟩) | simp only [add64 a b _ a0 b0 k0 k1])
  go_ret2
  exact ⟨rfl, rfl⟩

theorem sub (a b c : Int) (a0 : 0 ≤ a) (b0 : 0 ≤ b) (b1 : b ≤ 18446744073709551615) (c0 : 0 ≤ c) (c1 : c ≤ 18446744073709551615) (w : World) :
    Calls Tryz.prog 98 #[.int .u64 a, .int .u64 b, .int .u64 c] w fun e w' =>
      e = .returned (.tuple #[.int .u64 ((a - b - cry c) % 18446744073709551616), .int .u64 (bor a (b + cry c))]) ∧ w = w' := by
  have ⟨k0, k1⟩ := cry_le c c0
  go_enter Tryz.func98, Tryz.ntmps98
  go_wp2_with (first | (go_at_call 95; refine (one c c0 c1 _).mono ?_; rintro e w' ⟨rfl, rfl⟩) | simp only [sub64 a b _ a0 b0 b1 k0 k1])
  go_ret2
  exact ⟨rfl, rfl⟩

theorem add0 (a b : Int) (a0 : 0 ≤ a) (b0 : 0 ≤ b) (w : World) :
    Calls Tryz.prog 71 #[.int .u64 a, .int .u64 b, .int .u64 0] w fun e w' => e = .returned (.tuple #[.int .u64 ((a + b) % 18446744073709551616), .int .u64 ((a + b) / 18446744073709551616)]) ∧ w = w' := by
  have h := W.add a b 0 a0 b0 (by decide) (by decide) w
  rw [show W.cry 0 = 0 from rfl, Int.add_zero] at h
  exact h
end Go.Proofs.W
/- The contract of word.Mul: a product of two words. The arguments are words. -/
namespace Go.Proofs.W
open Go.RowKit
set_option linter.unusedVariables false

set_option maxHeartbeats 1000000 in
theorem mul64N (x y : Nat) (hx : x < 18446744073709551616) (hy : y < 18446744073709551616) (w : World) :
    Calls Tryz.prog 93 #[.int .u64 x, .int .u64 y] w fun e w' => e = .returned (.tuple #[.int .u64 ((x * y / 18446744073709551616 : Nat) : Int), .int .u64 ((x * y % 18446744073709551616 : Nat) : Int)]) ∧ w = w' := by
  obtain ⟨bd, bt, bw, hhi⟩ := Lib.mul64_hi x y hx hy
  have ba := Lib.half_mul_le (a := x / 4294967296) (b := y / 4294967296) (by omega) (by omega)
  have bb := Lib.half_mul_le (a := x / 4294967296) (b := y % 4294967296) (by omega) (by omega)
  have bc := Lib.half_mul_le (a := x % 4294967296) (b := y / 4294967296) (by omega) (by omega)
  have ba' : x / 4294967296 * (y / 4294967296) < 18446744073709551616 := by omega
  have bb' : x / 4294967296 * (y % 4294967296) < 18446744073709551616 := by omega
  have bc' : x % 4294967296 * (y / 4294967296) < 18446744073709551616 := by omega
  have bh1 : x / 4294967296 * (y / 4294967296) + (x / 4294967296 * (y % 4294967296) + x % 4294967296 * (y % 4294967296) / 4294967296) / 4294967296 < 18446744073709551616 := by omega
  have bh : x / 4294967296 * (y / 4294967296) + (x / 4294967296 * (y % 4294967296) + x % 4294967296 * (y % 4294967296) / 4294967296) / 4294967296 + ((x / 4294967296 * (y % 4294967296) + x % 4294967296 * (y % 4294967296) / 4294967296) % 4294967296 + x % 4294967296 * (y / 4294967296)) / 4294967296 < 18446744073709551616 := by omega
  go_enter Tryz.func93, Tryz.ntmps93
  go_wp2
  simp only [maskN x hx, maskN y hy, divN, mulN, addN, wrapN _ bd, wrapN _ bb', wrapN _ bt, maskN _ bt, wrapN _ bc', wrapN _ bw, wrapN _ ba', wrapN _ bh1, wrapN _ bh, wrapM (x * y)]
  rw [hhi]
  go_ret2
  exact ⟨rfl, rfl⟩

theorem mul (a b : Int) (a0 : 0 ≤ a) (a1 : a ≤ 18446744073709551615) (b0 : 0 ≤ b) (b1 : b ≤ 18446744073709551615) (w : World) :
    Calls Tryz.prog 70 #[.int .u64 a, .int .u64 b] w fun e w' =>
      e = .returned (.tuple #[.int .u64 (a * b / 18446744073709551616), .int .u64 (a * b % 18446744073709551616)]) ∧ w = w' := by
  obtain ⟨a, rfl⟩ := Int.eq_ofNat_of_zero_le a0
  obtain ⟨b, rfl⟩ := Int.eq_ofNat_of_zero_le b0
  go_enter Tryz.func70, Tryz.ntmps70
  go_wp2_with (go_at_call 93; refine (mul64N a b (by omega) (by omega) _).mono ?_; rintro e w' ⟨rfl, rfl⟩)
  go_ret2
  exact ⟨by simp, rfl⟩
end Go.Proofs.W
/- The contract of word.Len: how many bits a word has. The argument is a word. -/
namespace Go.Proofs.W
open Go.RowKit
set_option linter.unusedVariables false

theorem len (a : Int) (h0 : 0 ≤ a) (h1 : a ≤ 18446744073709551615) (w : World) :
    Calls Tryz.prog 66 #[.int .u64 a] w fun e w' => e = .returned (.int .i64 (bitLen a.toNat)) ∧ w = w' := by
  go_enter Tryz.func66, Tryz.ntmps66
  go_wp2
  go_step3
  go_wp2
  go_step3
  go_wp2
  go_loop [0, 3, 4] (fun s0 s3 s4 => ∃ (x : Int) (n j : Nat) (b : Int), s0 = .int .u64 x ∧ s3 = .int .i64 n ∧ s4 = .int .i64 b ∧ LenAt a x n j b) (fun _ _ s4 => (intOf s4).toNat)
  case atStart => exact ⟨a, 0, 6, 32, rfl, rfl, rfl, ⟨by simp, h0, by omega⟩⟩
  case round =>
    obtain ⟨x, n, j, b, rfl, rfl, rfl, ⟨hl, x0, hb⟩⟩ := hrel
    have H := Lib.hid hl
    clear hl
    rcases hb with ⟨rfl, rfl, hx, hn⟩ | ⟨rfl, rfl, hx, hn⟩ | ⟨rfl, rfl, hx, hn⟩ | ⟨rfl, rfl, hx, hn⟩ | ⟨rfl, rfl, hx, hn⟩ | ⟨rfl, rfl, hx, hn⟩ | ⟨rfl, rfl, hx, hn⟩
    · subst hn
      go_wp2
      · have ht : (x / 4294967296 != 0) = true := by assumption
        have hu := Lib.hid (LenAt.up H.out x0 32 4294967296 (by decide) (by simpa using ht))
        go_round
        case rel => exact ⟨_, 32, 5, 16, rfl, by go_num, rfl, ⟨by simpa using hu.out, by omega, by omega⟩⟩
        case measure => simp [intOf]
      · go_round
        case rel => exact ⟨x, 0, 5, 16, rfl, rfl, rfl, ⟨H.out, x0, by have ht : (x / 4294967296 != 0) = false := (by assumption); simp at ht; omega⟩⟩
        case measure => simp [intOf]
    · skip
      go_wp2
      · have ht : (x / 65536 != 0) = true := by assumption
        have hu := Lib.hid (LenAt.up H.out x0 16 65536 (by decide) (by simpa using ht))
        go_round
        case rel => exact ⟨_, n + 16, 4, 8, rfl, by go_num, rfl, ⟨hu.out, by omega, by omega⟩⟩
        case measure => simp [intOf]
      · go_round
        case rel => exact ⟨x, n, 4, 8, rfl, rfl, rfl, ⟨H.out, x0, by have ht : (x / 65536 != 0) = false := (by assumption); simp at ht; omega⟩⟩
        case measure => simp [intOf]
    · skip
      go_wp2
      · have ht : (x / 256 != 0) = true := by assumption
        have hu := Lib.hid (LenAt.up H.out x0 8 256 (by decide) (by simpa using ht))
        go_round
        case rel => exact ⟨_, n + 8, 3, 4, rfl, by go_num, rfl, ⟨hu.out, by omega, by omega⟩⟩
        case measure => simp [intOf]
      · go_round
        case rel => exact ⟨x, n, 3, 4, rfl, rfl, rfl, ⟨H.out, x0, by have ht : (x / 256 != 0) = false := (by assumption); simp at ht; omega⟩⟩
        case measure => simp [intOf]
    · skip
      go_wp2
      · have ht : (x / 16 != 0) = true := by assumption
        have hu := Lib.hid (LenAt.up H.out x0 4 16 (by decide) (by simpa using ht))
        go_round
        case rel => exact ⟨_, n + 4, 2, 2, rfl, by go_num, rfl, ⟨hu.out, by omega, by omega⟩⟩
        case measure => simp [intOf]
      · go_round
        case rel => exact ⟨x, n, 2, 2, rfl, rfl, rfl, ⟨H.out, x0, by have ht : (x / 16 != 0) = false := (by assumption); simp at ht; omega⟩⟩
        case measure => simp [intOf]
    · skip
      go_wp2
      · have ht : (x / 4 != 0) = true := by assumption
        have hu := Lib.hid (LenAt.up H.out x0 2 4 (by decide) (by simpa using ht))
        go_round
        case rel => exact ⟨_, n + 2, 1, 1, rfl, by go_num, rfl, ⟨hu.out, by omega, by omega⟩⟩
        case measure => simp [intOf]
      · go_round
        case rel => exact ⟨x, n, 1, 1, rfl, rfl, rfl, ⟨H.out, x0, by have ht : (x / 4 != 0) = false := (by assumption); simp at ht; omega⟩⟩
        case measure => simp [intOf]
    · skip
      go_wp2
      · have ht : (x / 2 != 0) = true := by assumption
        have hu := Lib.hid (LenAt.up H.out x0 1 2 (by decide) (by simpa using ht))
        go_round
        case rel => exact ⟨_, n + 1, 0, 0, rfl, by go_num, rfl, ⟨hu.out, by omega, by omega⟩⟩
        case measure => simp [intOf]
      · go_round
        case rel => exact ⟨x, n, 0, 0, rfl, rfl, rfl, ⟨H.out, x0, by have ht : (x / 2 != 0) = false := (by assumption); simp at ht; omega⟩⟩
        case measure => simp [intOf]
    · go_wp2
      go_ret
      refine ⟨ret_int ?_, rfl⟩
      have := bitLen_small x x0 hx
      rw [H.out]
      simp
      omega
end Go.Proofs.W
/- The contracts of math-bits Div64 and of word.Div: the quotient of two words by one. The arguments are words. -/
namespace Go.Proofs.W
open Go.RowKit
set_option linter.unusedVariables false

set_option maxHeartbeats 4000000 in
set_option maxRecDepth 100000 in
theorem len64 (x : Int) (h0 : 0 ≤ x) (h1 : x ≤ 18446744073709551615) (w : World) :
    Calls Tryz.prog 105 #[.int .u64 x] w fun e w' => e = .returned (.int .i64 (bitLen x.toNat)) ∧ w = w' := by
  go_enter Tryz.func105, Tryz.ntmps105
  go_wp2
  all_goals (go_ret; refine ⟨ret_int ?_, rfl⟩; simp only [len8tab_get])
  · exact len_way x.toNat 72057594037927936 56 56 (by decide) (by omega) (by omega) (by omega) _ (by omega) rfl
  · exact len_way x.toNat 281474976710656 48 48 (by decide) (by omega) (by omega) (by omega) _ (by omega) rfl
  · exact len_way x.toNat 1099511627776 40 40 (by decide) (by omega) (by omega) (by omega) _ (by omega) rfl
  · exact len_way x.toNat 4294967296 32 32 (by decide) (by omega) (by omega) (by omega) _ (by omega) rfl
  · exact len_way x.toNat 16777216 24 24 (by decide) (by omega) (by omega) (by omega) _ (by omega) rfl
  · exact len_way x.toNat 65536 16 16 (by decide) (by omega) (by omega) (by omega) _ (by omega) rfl
  · exact len_way x.toNat 256 8 8 (by decide) (by omega) (by omega) (by omega) _ (by omega) rfl
  · exact len_way0 x.toNat _ (by omega) rfl

theorem lead64 (y : Int) (h0 : 0 ≤ y) (h1 : y ≤ 18446744073709551615) (w : World) :
    Calls Tryz.prog 104 #[.int .u64 y] w fun e w' => e = .returned (.int .i64 ((64 - bitLen y.toNat : Nat) : Int)) ∧ w = w' := by
  have hl := bitLen_64 y.toNat (by omega)
  go_enter Tryz.func104, Tryz.ntmps104
  go_wp2_with (go_at_call 105; refine (len64 y h0 h1 _).mono ?_; rintro e w' ⟨rfl, rfl⟩)
  go_ret
  exact ⟨ret_int (by omega), rfl⟩
set_option maxRecDepth 100000 in
set_option maxHeartbeats 400000 in
theorem div64_pos (a b y : Int) (a0 : 1 ≤ a) (b0 : 0 ≤ b) (b1 : b ≤ 18446744073709551615) (ay : a < y) (y1 : y ≤ 18446744073709551615) (w : World) (n : Nat) (hn : Hid (64 - bitLen y.toNat = n))
    (Y yn1 yn0 U L un1 un0 : Int) (H : Norm a b y n Y yn1 yn0 U L un1 un0) :
    Calls Tryz.prog 102 #[.int .u64 a, .int .u64 b, .int .u64 y] w fun e w' => e = .returned (.tuple #[.int .u64 ((a * 18446744073709551616 + b) / y), .int .u64 ((a * 18446744073709551616 + b) % y)]) ∧ w = w' := by
  have hn1 := H.n1
  have c1 := H.h1.b0
  have c2 := H.h1.b1
  have c3 := H.h1.u0
  have c4 := H.h1.u1
  have c5 := H.h1.Ylt
  have c6 := H.h1.v0
  have c7 := H.h1.v1
  have c8 := H.h1.a0
  have c9 := H.h1.a1
  go_enter Tryz.func102, Tryz.ntmps102
  go_wp2_with fail
  refine (lead64 _ (by omega) (by omega) _).mono ?_; rintro e w' ⟨rfl, rfl⟩; rw [hn.out]
  go_upto_region 14 with fail
  go_cut [2, 9, 10, 11, 13, 14] (fun s2 s9 s10 s11 s13 s14 wx => s2 = .int .u64 Y ∧ s9 = .int .u64 yn1 ∧ s10 = .int .u64 yn0 ∧ s11 = .int .u64 U ∧ s13 = .int .u64 un1 ∧ s14 = .int .u64 un0 ∧ w = wx)
  case first =>
    go_wp2
    go_meet
    simp only [H.ey, H.ey1, H.ey0, H.eu, H.el, H.eu1, H.eu0]
    simp
  case rest =>
    obtain ⟨rfl, rfl, rfl, rfl, rfl, rfl, rfl⟩ := hcut
    go_upto_block 0 with (fail)
    go_cut [15, 16] (fun s15 s16 wx => s15 = .int .u64 ((U * 4294967296 + un1) / Y) ∧ w = wx)
    case first =>
      have k0 := DivPure.HL.start H.h1
      go_wp2
      go_loop [15, 16] (fun s15 s16 => ∃ q r : Int, s15 = .int .u64 q ∧ s16 = .int .u64 r ∧ DivPure.HL Y yn1 U un1 q r) (fun s15 _ => (intOf s15).toNat)
      case atStart => exact ⟨_, _, rfl, by rw [IntKind.wrap_u64, IntKind.wrap_u64], k0⟩
      case round =>
        obtain ⟨q, r, rfl, rfl, k⟩ := hrel
        have d1 := k.q0
        have d2 := k.q1
        have d3 := k.r0
        have d4 := k.r1
        have ⟨d5, d6⟩ := k.test H.h1
        by_cases t1 : 4294967296 ≤ q
        · by_cases t2 : 4294967296 ≤ r + yn1
          · have hs := Lib.hid (k.stop H.h1 (.inl t1) t2)
            go_wp2
            go_meet
            simp [hs.out]
          · have hx := Lib.hid (k.next H.h1 (.inl t1) (by omega))
            go_wp2
            go_round
            case rel => exact ⟨_, _, rfl, rfl, hx.out⟩
            case measure => simp [intOf]; omega
        · by_cases t3 : 4294967296 * r + un1 < q * yn0
          · have p1 := Lib.hid (k.down H.h1 (.inr t3)).2.2.1
            have p2 : 1 ≤ q := by have := p1.out; omega
            by_cases t2 : 4294967296 ≤ r + yn1
            · have hs := Lib.hid (k.stop H.h1 (.inr t3) t2)
              go_wp2
              go_meet
              simp [hs.out]
            · have hx := Lib.hid (k.next H.h1 (.inr t3) (by omega))
              go_wp2
              go_round
              case rel => exact ⟨_, _, rfl, rfl, hx.out⟩
              case measure => simp [intOf]; omega
          · have hs := Lib.hid (k.done H.h1 (by omega))
            go_wp2
            go_meet
            simp [hs.out]
    case rest =>
      obtain ⟨rfl, rfl⟩ := hcut
      have f2 := H.h1.second un0 H.v0 H.v1
      have f3 := Lib.hid (DivPure.un21 H.h1)
      have g1 := f2.u0
      have g2 := f2.u1
      have g3 := f2.v0
      have g4 := f2.v1
      have q0 := H.h1.Qnn
      have q1 := H.h1.Qlt
      have q2 := f2.Qnn
      have q3 := f2.Qlt
      have e1 := Lib.hid (DivPure.whole Y U un1 un0 H.h1.Ypos)
      have eq := Lib.hid H.q
      have er := Lib.hid H.r
      have f4 := Lib.hid (DivPure.un21 f2)
      go_upto_region 21 with fail
      go_cut [15, 17] (fun s15 s17 wx => s15 = .int .u64 ((U * 4294967296 + un1) / Y) ∧ s17 = .int .u64 ((U * 4294967296 + un1) % Y) ∧ w = wx)
      case first =>
        go_wp2
        go_meet
        rw [IntKind.wrap_u64, IntKind.wrap_u64, IntKind.wrap_u64, IntKind.wrap_u64, f3.out]
        simp
      case rest =>
      obtain ⟨rfl, rfl, rfl⟩ := hcut
      obtain ⟨V, hV⟩ : ∃ V, (U * 4294967296 + un1) % Y = V := ⟨_, rfl⟩
      obtain ⟨Q, hQ⟩ : ∃ V, (U * 4294967296 + un1) / Y = V := ⟨_, rfl⟩
      rw [hV] at f2 e1 f4 g1 g2 q2 q3 ⊢
      rw [hQ] at e1 q0 q1 ⊢
      have HV := Lib.hid hV
      have HQ := Lib.hid hQ
      clear hV hQ
      go_upto_block 2 with (fail)
      go_cut [16, 18] (fun s16 s18 wx => s18 = .int .u64 ((V * 4294967296 + un0) / Y) ∧ w = wx)
      case first =>
        have k0 := Lib.hid (DivPure.HL.start f2)
        go_wp2
        go_loop [18, 16] (fun s15 s16 => ∃ q r : Int, s15 = .int .u64 q ∧ s16 = .int .u64 r ∧ DivPure.HL Y yn1 V un0 q r) (fun s15 _ => (intOf s15).toNat)
        case atStart => exact ⟨_, _, rfl, by rw [IntKind.wrap_u64, IntKind.wrap_u64], k0.out⟩
        case round =>
        obtain ⟨q, r, rfl, rfl, k⟩ := hrel
        have d1 := k.q0
        have d2 := k.q1
        have d3 := k.r0
        have d4 := k.r1
        have ⟨d5, d6⟩ := k.test f2
        by_cases t1 : 4294967296 ≤ q
        · by_cases t2 : 4294967296 ≤ r + yn1
          · have hs := Lib.hid (k.stop f2 (.inl t1) t2)
            go_wp2
            go_meet
            simp [hs.out]
          · have hx := Lib.hid (k.next f2 (.inl t1) (by omega))
            go_wp2
            go_round
            case rel => exact ⟨_, _, rfl, rfl, hx.out⟩
            case measure => simp [intOf]; omega
        · by_cases t3 : 4294967296 * r + un0 < q * yn0
          · have p1 := Lib.hid (k.down f2 (.inr t3)).2.2.1
            have p2 : 1 ≤ q := by have := p1.out; omega
            by_cases t2 : 4294967296 ≤ r + yn1
            · have hs := Lib.hid (k.stop f2 (.inr t3) t2)
              go_wp2
              go_meet
              simp [hs.out]
            · have hx := Lib.hid (k.next f2 (.inr t3) (by omega))
              go_wp2
              go_round
              case rel => exact ⟨_, _, rfl, rfl, hx.out⟩
              case measure => simp [intOf]; omega
          · have hs := Lib.hid (k.done f2 (by omega))
            go_wp2
            go_meet
            simp [hs.out]
      case rest =>
        obtain ⟨rfl, rfl⟩ := hcut
        obtain ⟨R, hR⟩ : ∃ T, (V * 4294967296 + un0) / Y = T := ⟨_, rfl⟩
        rw [hR] at e1 q2 q3 f4 ⊢
        clear hR
        go_wp2
        go_ret2
        refine ⟨?_, rfl⟩
        rw [IntKind.wrap_u64, IntKind.wrap_u64, IntKind.wrap_u64, IntKind.wrap_u64, f4.out, e1.out.2, ← eq.out, er.out, e1.out.1]
        rfl

theorem div64_zero (b y : Int) (b0 : 0 ≤ b) (b1 : b ≤ 18446744073709551615) (ay : 0 < y) (y1 : y ≤ 18446744073709551615) (w : World) :
    Calls Tryz.prog 102 #[.int .u64 0, .int .u64 b, .int .u64 y] w fun e w' => e = .returned (.tuple #[.int .u64 (b / y), .int .u64 (b % y)]) ∧ ∃ n, w.drewN n = w' := by
  go_enter Tryz.func102, Tryz.ntmps102
  go_wp2_with fail
  go_quiet (fail)
  go_wp2
  go_ret2
  exact ⟨rfl, _, rfl⟩
/-- math-bits Div64, as a whole -/
theorem div64 (a b y : Int) (a0 : 0 ≤ a) (b0 : 0 ≤ b) (b1 : b ≤ 18446744073709551615) (ay : a < y) (y1 : y ≤ 18446744073709551615) (w : World) :
    Calls Tryz.prog 102 #[.int .u64 a, .int .u64 b, .int .u64 y] w fun e w' => e = .returned (.tuple #[.int .u64 ((a * 18446744073709551616 + b) / y), .int .u64 ((a * 18446744073709551616 + b) % y)]) ∧ ∃ k, w.drewN k = w' := by
  by_cases h : a = 0
  · subst h
    simpa using div64_zero b y b0 b1 (by omega) y1 w
  · obtain ⟨n, hn, Y, yn1, yn0, U, L, un1, un0, H⟩ := norm a.toNat b.toNat y.toNat (by omega) (by omega) (by omega)
    rw [Int.toNat_of_nonneg a0, Int.toNat_of_nonneg b0, Int.toNat_of_nonneg (by omega)] at H
    refine (div64_pos a b y (by omega) b0 b1 ay y1 w n hn Y yn1 yn0 U L un1 un0 H).mono ?_
    rintro e w' ⟨rfl, rfl⟩
    exact ⟨rfl, 0, rfl⟩
theorem div_zero (a b : Int) (w : World) :
    Calls Tryz.prog 97 #[.int .u64 a, .int .u64 b, .int .u64 0] w fun e w' => e = .returned (.tuple #[.int .u64 0, .int .u64 0, .int .i64 7]) ∧ w = w' := by
  go_enter Tryz.func97, Tryz.ntmps97
  go_wp2
  go_ret3
  exact ⟨rfl, rfl⟩
theorem div_long (a b d : Int) (d0 : 0 < d) (h : d ≤ a) (w : World) :
    Calls Tryz.prog 97 #[.int .u64 a, .int .u64 b, .int .u64 d] w fun e w' => e = .returned (.tuple #[.int .u64 0, .int .u64 0, .int .i64 5]) ∧ w = w' := by
  have h0 : (d == 0) = false := beq_eq_false_iff_ne.2 (by omega)
  go_enter Tryz.func97, Tryz.ntmps97
  go_wp2
  go_ret3
  exact ⟨rfl, rfl⟩
theorem div_ok (a b d : Int) (a0 : 0 ≤ a) (b0 : 0 ≤ b) (b1 : b ≤ 18446744073709551615) (h : a < d) (d1 : d ≤ 18446744073709551615) (w : World) :
    Calls Tryz.prog 97 #[.int .u64 a, .int .u64 b, .int .u64 d] w fun e w' => e = .returned (.tuple #[.int .u64 ((a * 18446744073709551616 + b) / d), .int .u64 ((a * 18446744073709551616 + b) % d), .int .i64 0]) ∧ ∃ k, w.drewN k = w' := by
  have h0 : (d == 0) = false := beq_eq_false_iff_ne.2 (by omega)
  go_enter Tryz.func97, Tryz.ntmps97
  go_wp2_with (go_at_call 102; refine (div64 a b d a0 b0 b1 h d1 _).mono ?_; rintro e w' ⟨rfl, k, rfl⟩)
  go_ret3
  exact ⟨rfl, _, rfl⟩
end Go.Proofs.W
