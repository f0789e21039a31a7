/- Plain facts on 64-bit words that the walks of package word lean on: no program in sight. -/
import Derived.WalkKit
import Derived.WalkLawsBesides
import Derived.WalkSpells
import Derived.Shelf.Spec.BitsCarry
import Derived.Lib.Mul64
import Derived.Outline
import Derived.Deep.DeepCutAuto
import Derived.Deep.LoopGhost
import Derived.Deep.CutBlock
import Derived.Deep.Light
import Derived.Deep.QuietTactic
import Derived.BigQuiet
import Derived.Lib.Hide
import Derived.Laws.Bits64b
import Derived.Laws.MathBits
import Derived.Test.YtbmifejeffgobaaDoorDivPure
namespace Go.Proofs.W
open Go.RowKit
set_option linter.unusedVariables false

def bor (x y : Int) : Int := if x < y then 1 else 0

theorem bor_le (x y : Int) : 0 ≤ bor x y ∧ bor x y ≤ 1 := by unfold bor; split <;> omega

theorem ret_int {k : IntKind} {a b : Int} (h : a = b) : Ending.returned (.int k a) = .returned (.int k b) := by rw [h]

theorem val_int {k : IntKind} {a b : Int} (h : a = b) : Value.int k a = .int k b := by rw [h]
theorem ret2 {k l : IntKind} {a a' b b' : Int} (h : a = a') (h' : b = b') : Ending.returned (.tuple #[.int k a, .int l b]) = .returned (.tuple #[.int k a', .int l b']) := by rw [h, h']
theorem ret3 {k l m : IntKind} {a a' b b' c c' : Int} (h : a = a') (h' : b = b') (h'' : c = c') : Ending.returned (.tuple #[.int k a, .int l b, .int m c]) = .returned (.tuple #[.int k a', .int l b', .int m c']) := by rw [h, h', h'']
theorem ret_bool {a b : Bool} (h : a = b) : Ending.returned (.bool a) = .returned (.bool b) := by rw [h]

/-- a carry as it counts -/
def cry (c : Int) : Int := min c 1
theorem cry_le (c : Int) (h0 : 0 ≤ c) : 0 ≤ cry c ∧ cry c ≤ 1 := by unfold cry; omega

theorem maskN (a : Nat) (ha : a < 18446744073709551616) : bits .and .u64 (a : Int) 4294967295 = ((a % 4294967296 : Nat) : Int) := by
  have h := bits_and_u64_nat a 4294967295 ha (by omega)
  have e : a &&& 4294967295 = a % 4294967296 := Nat.and_two_pow_sub_one_eq_mod a 32
  rw [e] at h
  exact h
theorem divN (a : Nat) : (a : Int) / 4294967296 = ((a / 4294967296 : Nat) : Int) := by omega
theorem mulN (a b : Nat) : (a : Int) * (b : Int) = ((a * b : Nat) : Int) := (Int.natCast_mul a b).symm
theorem addN (a b : Nat) : (a : Int) + (b : Int) = ((a + b : Nat) : Int) := (Int.natCast_add a b).symm
theorem wrapN (a : Nat) (ha : a < 18446744073709551616) : IntKind.u64.wrap (a : Int) = (a : Int) := by rw [IntKind.wrap_u64]; omega
theorem wrapM (a : Nat) : IntKind.u64.wrap (a : Int) = ((a % 18446744073709551616 : Nat) : Int) := by rw [IntKind.wrap_u64]; omega

theorem len_way (X D b k : Nat) (hb : D = 2 ^ b) (h0 : X / D ≠ 0) (h8 : X / D < 256) (hk : b ≤ 56) (i : Nat) (hi : i = X / D) (hk' : k = b) : wrap64 ((k : Int) + wrap64 ((bitLen i : Nat) : Int)) = ((bitLen X : Nat) : Int) := by
  subst hb; subst hi; subst hk'
  have h := bitLen_shift X k h0
  have l := bitLen_le8 _ h8
  have e1 : wrap64 ((bitLen (X / 2 ^ k) : Nat) : Int) = (bitLen (X / 2 ^ k) : Nat) := by unfold wrap64; omega
  rw [e1, h]; unfold wrap64; omega
theorem len_way0 (X i : Nat) (h8 : X < 256) (hi : i = X) : wrap64 (wrap64 ((bitLen i : Nat) : Int)) = ((bitLen X : Nat) : Int) := by
  subst hi
  have l := bitLen_le8 _ h8
  have e1 : wrap64 ((bitLen i : Nat) : Int) = (bitLen i : Nat) := by unfold wrap64; omega
  rw [e1, e1]

theorem bitLen_64 (x : Nat) (h : x < 18446744073709551616) : bitLen x ≤ 64 := by
  unfold bitLen; split
  · omega
  · rename_i h0
    have := (Nat.log2_lt h0).2 (show x < 2 ^ 64 from h)
    omega

theorem u64_or_join (a b i : Nat) (h : b < 2 ^ i) (hs : a * 2 ^ i + b < 18446744073709551616) : bits BinOp.or IntKind.u64 ((a * 2 ^ i : Nat) : Int) (b : Int) = ((a * 2 ^ i + b : Nat) : Int) := by
  rw [bits_or_u64_nat _ _ (by omega) (by omega), Nat.mul_comm, Nat.two_pow_add_eq_or_of_lt h]

structure Norm (a b y : Int) (n : Nat) (Y yn1 yn0 U L un1 un0 : Int) : Prop where
  n1 : n ≤ 63
  ey : IntKind.u64.wrap (y * 2 ^ n) = Y
  ey1 : Y / 4294967296 = yn1
  ey0 : bits BinOp.and IntKind.u64 Y 4294967295 = yn0
  eu : bits BinOp.or IntKind.u64 (IntKind.u64.wrap (a * 2 ^ n)) (b / 2 ^ (64 - n)) = U
  el : IntKind.u64.wrap (b * 2 ^ n) = L
  eu1 : L / 4294967296 = un1
  eu0 : bits BinOp.and IntKind.u64 L 4294967295 = un0
  h1 : DivPure.Half Y yn1 yn0 U un1
  v0 : 0 ≤ un0
  v1 : un0 ≤ 4294967295
  q : (U * 18446744073709551616 + un1 * 4294967296 + un0) / Y = (a * 18446744073709551616 + b) / y
  r : (U * 18446744073709551616 + un1 * 4294967296 + un0) % Y / 2 ^ n = (a * 18446744073709551616 + b) % y

theorem castq (U M u1 K u0 Y a b y : Nat) (h : (U * M + u1 * K + u0) / Y = (a * M + b) / y) : ((U : Int) * (M : Int) + (u1 : Int) * (K : Int) + (u0 : Int)) / (Y : Int) = ((a : Int) * (M : Int) + (b : Int)) / (y : Int) := by
  exact_mod_cast h
theorem castr (U M u1 K u0 Y a b y P : Nat) (h : (U * M + u1 * K + u0) % Y / P = (a * M + b) % y) : ((U : Int) * (M : Int) + (u1 : Int) * (K : Int) + (u0 : Int)) % (Y : Int) / (P : Int) = ((a : Int) * (M : Int) + (b : Int)) % (y : Int) := by
  exact_mod_cast h

theorem norm (a b y : Nat) (b1 : b < 18446744073709551616) (ay : a < y) (y1 : y < 18446744073709551616) :
    ∃ n, 64 - bitLen y = n ∧ ∃ Y yn1 yn0 U L un1 un0, Norm (a : Int) (b : Int) (y : Int) n Y yn1 yn0 U L un1 un0 := by
  have hl := bitLen_64 y y1
  obtain ⟨s1, s2⟩ := bitLen_spec y
  have s2 := s2 (by omega)
  have hb1 : 1 ≤ bitLen y := by
    rcases Nat.eq_zero_or_pos (bitLen y) with h | h
    · rw [h] at s1; simp at s1; omega
    · exact h
  refine ⟨64 - bitLen y, rfl, ?_⟩
  have hn : (64 - bitLen y) + bitLen y = 64 := by omega
  generalize hN : 64 - bitLen y = n at *
  generalize bitLen y = m at *
  have hp : 2 ^ n * 2 ^ m = 18446744073709551616 := by rw [← Nat.pow_add, hn]
  have hm : 2 ^ m = 2 * 2 ^ (m - 1) := by rw [← Nat.pow_succ']; congr 1; omega
  have hnm : 64 - n = m := by omega
  have p0 : 0 < 2 ^ n := Nat.two_pow_pos n
  have y2 : y * 2 ^ n < 18446744073709551616 := by
    rw [← hp, Nat.mul_comm]; exact Nat.mul_lt_mul_of_pos_left s1 p0
  have y3 : 9223372036854775808 ≤ y * 2 ^ n := by
    have : 2 ^ (m - 1) * 2 ^ n ≤ y * 2 ^ n := Nat.mul_le_mul_right _ s2
    have : 2 ^ m * 2 ^ n = 2 * (2 ^ (m - 1) * 2 ^ n) := by rw [hm]; simp [Nat.mul_assoc]
    have : 2 ^ m * 2 ^ n = 18446744073709551616 := by rw [Nat.mul_comm]; exact hp
    omega
  have a2 : a * 2 ^ n + 2 ^ n ≤ y * 2 ^ n := by rw [← Nat.succ_mul]; exact Nat.mul_le_mul_right _ ay
  have b2 : b / 2 ^ m < 2 ^ n := by rw [Nat.div_lt_iff_lt_mul (Nat.two_pow_pos m), hp]; exact b1
  have b3 : b * 2 ^ n = b / 2 ^ m * 18446744073709551616 + b * 2 ^ n % 18446744073709551616 := by
    have e1 := Nat.div_add_mod (b * 2 ^ n) 18446744073709551616
    have e2 : b * 2 ^ n / 18446744073709551616 = b / 2 ^ m := by rw [← hp, Nat.mul_comm b, Nat.mul_div_mul_left _ _ p0]
    rw [e2] at e1; omega
  have c1 : ((2 : Int) ^ n) = ((2 ^ n : Nat) : Int) := by simp
  have c2 : ((2 : Int) ^ m) = ((2 ^ m : Nat) : Int) := by simp
  have eU : bits BinOp.or IntKind.u64 (IntKind.u64.wrap ((a : Int) * 2 ^ n)) ((b : Int) / 2 ^ m) = ((a * 2 ^ n + b / 2 ^ m : Nat) : Int) := by
    rw [c1, c2, mulN, wrapN _ (by omega), show ((b : Int) / ((2 ^ m : Nat) : Int)) = ((b / 2 ^ m : Nat) : Int) by simp]
    exact u64_or_join a (b / 2 ^ m) n b2 (by omega)
  have eL : IntKind.u64.wrap ((b : Int) * 2 ^ n) = ((b * 2 ^ n % 18446744073709551616 : Nat) : Int) := by
    rw [c1, mulN, wrapM]
  have eY : IntKind.u64.wrap ((y : Int) * 2 ^ n) = ((y * 2 ^ n : Nat) : Int) := by
    rw [c1, mulN, wrapN _ y2]
  have eY0 := maskN (y * 2 ^ n) y2
  have eL0 := maskN (b * 2 ^ n % 18446744073709551616) (by omega)
  have tot : (a * 2 ^ n + b / 2 ^ m) * 18446744073709551616 + (b * 2 ^ n % 18446744073709551616) / 4294967296 * 4294967296 + (b * 2 ^ n % 18446744073709551616) % 4294967296 = (a * 18446744073709551616 + b) * 2 ^ n := by
    have d := Nat.div_add_mod (b * 2 ^ n % 18446744073709551616) 4294967296
    have e : (a * 18446744073709551616 + b) * 2 ^ n = a * 2 ^ n * 18446744073709551616 + b * 2 ^ n := by rw [Nat.add_mul, Nat.mul_right_comm]
    rw [e]
    generalize a * 2 ^ n = A at *
    generalize b * 2 ^ n % 18446744073709551616 = C at *
    omega
  have tq : ((a * 18446744073709551616 + b) * 2 ^ n) / (y * 2 ^ n) = (a * 18446744073709551616 + b) / y := Nat.mul_div_mul_right _ _ p0
  have tr : ((a * 18446744073709551616 + b) * 2 ^ n) % (y * 2 ^ n) / 2 ^ n = (a * 18446744073709551616 + b) % y := by
    rw [Nat.mul_mod_mul_right, Nat.mul_div_cancel _ p0]
  rw [← tot] at tq tr
  have tq' : (((a * 2 ^ n + b / 2 ^ m : Nat) : Int) * 18446744073709551616 + ((b * 2 ^ n % 18446744073709551616 / 4294967296 : Nat) : Int) * 4294967296 + ((b * 2 ^ n % 18446744073709551616 % 4294967296 : Nat) : Int)) / ((y * 2 ^ n : Nat) : Int) = ((a : Int) * 18446744073709551616 + b) / y := castq _ _ _ _ _ _ _ _ _ tq
  have tr' : (((a * 2 ^ n + b / 2 ^ m : Nat) : Int) * 18446744073709551616 + ((b * 2 ^ n % 18446744073709551616 / 4294967296 : Nat) : Int) * 4294967296 + ((b * 2 ^ n % 18446744073709551616 % 4294967296 : Nat) : Int)) % ((y * 2 ^ n : Nat) : Int) / 2 ^ n = ((a : Int) * 18446744073709551616 + b) % y := by rw [c1]; exact castr _ _ _ _ _ _ _ _ _ _ tr
  rw [← hnm] at eU
  exact ⟨_, ((y * 2 ^ n / 4294967296 : Nat) : Int), _, ((a * 2 ^ n + b / 2 ^ m : Nat) : Int), _, ((b * 2 ^ n % 18446744073709551616 / 4294967296 : Nat) : Int), _, ⟨by omega, eY, by omega, eY0, by rw [← hnm] at *; exact eU, eL, by omega, eL0, ⟨by omega, by omega, by omega, by omega, by omega, by omega, by omega, by omega, by omega⟩, by omega, by omega, tq', tr'⟩⟩
structure LenAt (a x : Int) (n j : Nat) (b : Int) : Prop where
  len : bitLen a.toNat = n + bitLen x.toNat
  x0 : 0 ≤ x
  at' : (j = 6 ∧ b = 32 ∧ x ≤ 18446744073709551615 ∧ n = 0) ∨ (j = 5 ∧ b = 16 ∧ x < 4294967296 ∧ n ≤ 32) ∨ (j = 4 ∧ b = 8 ∧ x < 65536 ∧ n ≤ 48) ∨ (j = 3 ∧ b = 4 ∧ x < 256 ∧ n ≤ 56) ∨ (j = 2 ∧ b = 2 ∧ x < 16 ∧ n ≤ 60) ∨ (j = 1 ∧ b = 1 ∧ x < 4 ∧ n ≤ 62) ∨ (j = 0 ∧ b = 0 ∧ x < 2 ∧ n ≤ 63)

theorem bitLen_small (x : Int) (h0 : 0 ≤ x) (h : x < 2) : (bitLen x.toNat : Int) = x := by
  have : x = 0 ∨ x = 1 := by omega
  rcases this with rfl | rfl <;> decide

theorem LenAt.up {a x : Int} {n : Nat} (l : bitLen a.toNat = n + bitLen x.toNat) (x0 : 0 ≤ x) (b : Nat) (D : Int) (hD : D = 2 ^ b) (h : x / D ≠ 0) : bitLen a.toNat = (n + b) + bitLen (x / D).toNat := by
  subst hD
  obtain ⟨x, rfl⟩ := Int.eq_ofNat_of_zero_le x0
  have e : ((x : Int) / 2 ^ b).toNat = x / 2 ^ b := by
    rw [show ((2 : Int) ^ b) = ((2 ^ b : Nat) : Int) by simp, ← Int.natCast_ediv, Int.toNat_natCast]
  have h' : x / 2 ^ b ≠ 0 := by
    intro h0; apply h
    rw [show ((2 : Int) ^ b) = ((2 ^ b : Nat) : Int) by simp, ← Int.natCast_ediv, h0]; rfl
  rw [l, e, Int.toNat_natCast, bitLen_shift x b h']; omega

theorem pow_cast (n : Nat) : ((2 : Int) ^ n) = ((2 ^ n : Nat) : Int) := by simp

theorem pow_split (n : Nat) (h : n ≤ 64) : 2 ^ n * 2 ^ (64 - n) = 18446744073709551616 := by rw [← Nat.pow_add, show n + (64 - n) = 64 by omega]

theorem shl_high (a n : Nat) (h : n ≤ 64) : (a : Int) / 2 ^ (64 - n) = ((a * 2 ^ n / 18446744073709551616 : Nat) : Int) := by
  rw [pow_cast, ← Int.natCast_ediv, ← pow_split n h, Nat.mul_comm a, Nat.mul_div_mul_left _ _ (Nat.two_pow_pos n)]

theorem shl_low (a n : Nat) : IntKind.u64.wrap ((a : Int) * 2 ^ n) = ((a * 2 ^ n % 18446744073709551616 : Nat) : Int) := by
  rw [pow_cast, mulN, wrapM]

theorem shr_word (a b n : Nat) (hb : b < 18446744073709551616) (h : n ≤ 64) :
    bits BinOp.or IntKind.u64 (IntKind.u64.wrap ((a : Int) * 2 ^ (64 - n))) ((b : Int) / 2 ^ n) = (((a * 18446744073709551616 + b) / 2 ^ n % 18446744073709551616 : Nat) : Int) := by
  have p := pow_split n h
  have p0 := Nat.two_pow_pos n
  have p1 := Nat.two_pow_pos (64 - n)
  have e1 : (a * 18446744073709551616 + b) / 2 ^ n = a * 2 ^ (64 - n) + b / 2 ^ n := by
    rw [← p, Nat.mul_left_comm, Nat.add_comm, Nat.add_mul_div_left _ _ p0, Nat.add_comm]
  have b2 : b / 2 ^ n < 2 ^ (64 - n) := by rw [Nat.div_lt_iff_lt_mul p0, Nat.mul_comm, p]; exact hb
  have e2 : a * 2 ^ (64 - n) % 18446744073709551616 = (a % 2 ^ n) * 2 ^ (64 - n) := by rw [← p, Nat.mul_mod_mul_right]
  have e3 : (a % 2 ^ n) * 2 ^ (64 - n) + 2 ^ (64 - n) ≤ 18446744073709551616 := by
    rw [← p, ← Nat.succ_mul]; exact Nat.mul_le_mul_right _ (Nat.mod_lt _ p0)
  rw [shl_low, e1, e2, pow_cast, ← Int.natCast_ediv, u64_or_join _ _ _ b2 (by generalize 2 ^ (64 - n) = P at *; generalize a % 2 ^ n * P = C at *; generalize b / 2 ^ n = D at *; omega)]
  congr 1
  generalize a * 2 ^ (64 - n) = A at *
  generalize a % 2 ^ n * 2 ^ (64 - n) = C at *
  generalize b / 2 ^ n = D at *
  generalize 2 ^ (64 - n) = P at *
  omega

theorem shl_highI (a : Int) (n : Nat) (a0 : 0 ≤ a) (h : n ≤ 64) : a / 2 ^ (64 - n) = a * 2 ^ n / 18446744073709551616 := by
  obtain ⟨a, rfl⟩ := Int.eq_ofNat_of_zero_le a0
  rw [shl_high a n h, pow_cast]; simp
theorem shl_lowI (a : Int) (n : Nat) : IntKind.u64.wrap (a * 2 ^ n) = a * 2 ^ n % 18446744073709551616 := by rw [IntKind.wrap_u64]
theorem shr_wordI (a b : Int) (n : Nat) (a0 : 0 ≤ a) (b0 : 0 ≤ b) (b1 : b ≤ 18446744073709551615) (h : n ≤ 64) :
    bits BinOp.or IntKind.u64 (IntKind.u64.wrap (a * 2 ^ (64 - n))) (b / 2 ^ n) = (a * 18446744073709551616 + b) / 2 ^ n % 18446744073709551616 := by
  obtain ⟨a, rfl⟩ := Int.eq_ofNat_of_zero_le a0
  obtain ⟨b, rfl⟩ := Int.eq_ofNat_of_zero_le b0
  rw [shr_word a b n (by omega) h, pow_cast]; simp
end Go.Proofs.W
