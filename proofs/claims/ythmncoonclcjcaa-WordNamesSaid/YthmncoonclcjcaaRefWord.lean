/- The contracts of tombolaref01: halves of 32 bits and single bits come to the same numbers as the formulas of package word. Arguments are words. -/
import Derived.Test.YthmncoonclcjcaaWord
namespace Go.Proofs.R1
open Go.RowKit
open Go.Proofs.W
set_option linter.unusedVariables false

theorem half_pow (a : Int) (n : Nat) : a / 2 ^ n / 2 = a / 2 ^ (n + 1) := by
  rw [Int.pow_succ, ← Int.ediv_ediv_of_nonneg (Int.le_of_lt (Int.pow_pos (by decide)))]

theorem down_pow (b : Int) (n : Nat) : b / 2 ^ n = 2 * (b / 2 ^ (n + 1)) + b / 2 ^ n % 2 := by
  rw [← half_pow]; omega

theorem bitLen_half (x : Nat) (h : x ≠ 0) : bitLen x = bitLen (x / 2) + 1 := by
  by_cases h1 : x / 2 = 0
  · have : x = 1 := by omega
    subst this; decide
  · have := bitLen_shift x 1 (by simpa using h1)
    simp at this; omega

theorem two0 (h l V : Int) (hV : h * 18446744073709551616 + l = V) (l0 : 0 ≤ l) (l1 : l ≤ 18446744073709551615) (h0 : 0 ≤ h) (b : 2 * V < 340282366920938463463374607431768211456) :
    (h + h + (l + l) / 18446744073709551616) % 18446744073709551616 * 18446744073709551616 + (l + l) % 18446744073709551616 = 2 * V := by omega
theorem two1 (h l V a : Int) (hV : h * 18446744073709551616 + l = V) (l0 : 0 ≤ l) (l1 : l ≤ 18446744073709551615) (h0 : 0 ≤ h) (a0 : 0 ≤ a) (a1 : a ≤ 18446744073709551615) (b : 2 * V + a < 340282366920938463463374607431768211456) :
    ((h + h + (l + l) / 18446744073709551616) % 18446744073709551616 + ((l + l) % 18446744073709551616 + a) / 18446744073709551616) % 18446744073709551616 * 18446744073709551616 + ((l + l) % 18446744073709551616 + a) % 18446744073709551616 = 2 * V + a := by omega

structure MulAt (a b h l : Int) (k : Nat) : Prop where
  k1 : k ≤ 64
  h0 : 0 ≤ h
  h1 : h ≤ 18446744073709551615
  l0 : 0 ≤ l
  l1 : l ≤ 18446744073709551615
  v : h * 18446744073709551616 + l = a * (b / 2 ^ k)

theorem MulAt.bound (a b : Int) (k : Nat) (a0 : 0 ≤ a) (a1 : a ≤ 18446744073709551615) (b0 : 0 ≤ b) (b1 : b ≤ 18446744073709551615) :
    0 ≤ a * (b / 2 ^ k) ∧ a * (b / 2 ^ k) < 340282366920938463463374607431768211456 := by
  have p : (0 : Int) < 2 ^ k := Int.pow_pos (by decide)
  have c0 : 0 ≤ b / 2 ^ k := Int.ediv_nonneg b0 (by omega)
  have c1 : b / 2 ^ k ≤ 18446744073709551615 := Int.le_trans (Int.ediv_le_self _ b0) b1
  have := Int.mul_le_mul a1 c1 c0 (by decide)
  have := Int.mul_nonneg a0 c0
  omega

theorem MulAt.step (a b : Int) (k : Nat) : a * (b / 2 ^ k) = 2 * (a * (b / 2 ^ (k + 1))) + a * (b / 2 ^ k % 2) := by
  have := down_pow b k
  rw [this]
  generalize b / 2 ^ (k + 1) = x at *
  have e : (2 * x + b / 2 ^ k % 2) % 2 = b / 2 ^ k % 2 := by omega
  rw [e]
  grind

theorem MulAt.next0 {a b h l : Int} {k : Nat} (H : MulAt a b h l (k + 1)) (a0 : 0 ≤ a) (a1 : a ≤ 18446744073709551615) (b0 : 0 ≤ b) (b1 : b ≤ 18446744073709551615) (hb : b / 2 ^ k % 2 = 0) :
    MulAt a b ((h + h + (l + l) / 18446744073709551616) % 18446744073709551616) ((l + l) % 18446744073709551616) k := by
  have s := MulAt.step a b k
  have u := MulAt.bound a b k a0 a1 b0 b1
  have := H.k1; have := H.l0; have := H.l1; have := H.h0
  rw [hb, Int.mul_zero, Int.add_zero] at s
  refine ⟨by omega, by omega, by omega, by omega, by omega, ?_⟩
  rw [two0 h l _ H.v H.l0 H.l1 H.h0 (by omega), s]
theorem MulAt.next1 {a b h l : Int} {k : Nat} (H : MulAt a b h l (k + 1)) (a0 : 0 ≤ a) (a1 : a ≤ 18446744073709551615) (b0 : 0 ≤ b) (b1 : b ≤ 18446744073709551615) (hb : b / 2 ^ k % 2 = 1) :
    MulAt a b (((h + h + (l + l) / 18446744073709551616) % 18446744073709551616 + ((l + l) % 18446744073709551616 + a) / 18446744073709551616) % 18446744073709551616) (((l + l) % 18446744073709551616 + a) % 18446744073709551616) k := by
  have s := MulAt.step a b k
  have u := MulAt.bound a b k a0 a1 b0 b1
  have := H.k1; have := H.l0; have := H.l1; have := H.h0
  rw [hb, Int.mul_one] at s
  refine ⟨by omega, by omega, by omega, by omega, by omega, ?_⟩
  rw [two1 h l _ a H.v H.l0 H.l1 H.h0 a0 a1 (by omega), s]

theorem MulAt.done {a b h l : Int} (H : MulAt a b h l 0) : h = a * b / 18446744073709551616 ∧ l = a * b % 18446744073709551616 := by
  have v := H.v
  rw [Int.pow_zero, Int.ediv_one] at v
  rw [← v]
  have := H.l0; have := H.l1
  omega

theorem cry_of (c : Int) (h0 : 0 ≤ c) (h1 : c ≤ 1) : cry c = c := by unfold cry; omega

structure DivAt (a b d q r : Int) (k : Nat) : Prop where
  k1 : k ≤ 64
  q0 : 0 ≤ q
  q1 : q < 2 ^ (64 - k)
  r0 : 0 ≤ r
  r1 : r < d
  v : q * d + r = (a * 18446744073709551616 + b) / 2 ^ k

theorem DivAt.qb {a b d q r : Int} {k : Nat} (H : DivAt a b d q r (k + 1)) : q ≤ 9223372036854775807 := by
  have h := H.q1
  have : (2 : Int) ^ (64 - (k + 1)) ≤ 2 ^ 63 := by
    have := Nat.pow_le_pow_right (n := 2) (by decide) (show 64 - (k + 1) ≤ 63 by omega)
    rw [pow_cast, pow_cast]; exact_mod_cast this
  have e : (2 : Int) ^ 63 = 9223372036854775808 := by decide
  omega

theorem DivAt.bit (a b : Int) (k : Nat) (hk : k < 64) : (a * 18446744073709551616 + b) / 2 ^ k % 2 = b / 2 ^ k % 2 := by
  have e : a * 18446744073709551616 = a * 2 ^ (63 - k) * 2 * 2 ^ k := by
    rw [Int.mul_assoc, Int.mul_assoc, ← Int.pow_succ', ← Int.pow_add, show 63 - k + (k + 1) = 64 by omega]; rfl
  rw [e, Int.add_comm, Int.add_mul_ediv_right _ _ (by have : (0 : Int) < 2 ^ k := Int.pow_pos (by decide); omega)]
  omega

theorem DivAt.next0 {a b d q r c : Int} {k : Nat} (H : DivAt a b d q r (k + 1)) (hb : b / 2 ^ k % 2 = c) (d1 : d ≤ 18446744073709551615) (t1 : (r + r + c) / 18446744073709551616 ≠ 1) (t2 : (r + r + c) % 18446744073709551616 < d) :
    DivAt a b d (2 * q) ((r + r + c) % 18446744073709551616) k := by
  have := H.k1; have r0 := H.r0; have r1 := H.r1; have := H.q0
  have s := down_pow (a * 18446744073709551616 + b) k
  rw [DivAt.bit a b k (by omega), ← H.v] at s
  have hq := H.q1
  have e : (2 : Int) ^ (64 - k) = 2 * 2 ^ (64 - (k + 1)) := by rw [show 64 - k = (64 - (k + 1)) + 1 by omega, Int.pow_succ', ]
  refine ⟨by omega, by omega, by omega, by omega, by omega, ?_⟩
  have : 2 * q * d = 2 * (q * d) := by grind
  rw [this]
  generalize q * d = p at *
  omega

theorem DivAt.next1 {a b d q r c : Int} {k : Nat} (H : DivAt a b d q r (k + 1)) (hb : b / 2 ^ k % 2 = c) (d1 : d ≤ 18446744073709551615) (t : (r + r + c) / 18446744073709551616 = 1 ∨ d ≤ (r + r + c) % 18446744073709551616) :
    DivAt a b d (2 * q + 1) (((r + r + c) % 18446744073709551616 - d) % 18446744073709551616) k := by
  have := H.k1; have r0 := H.r0; have r1 := H.r1; have := H.q0
  have s := down_pow (a * 18446744073709551616 + b) k
  rw [DivAt.bit a b k (by omega), ← H.v] at s
  have hq := H.q1
  have e : (2 : Int) ^ (64 - k) = 2 * 2 ^ (64 - (k + 1)) := by rw [show 64 - k = (64 - (k + 1)) + 1 by omega, Int.pow_succ', ]
  refine ⟨by omega, by omega, by omega, by omega, by omega, ?_⟩
  have : (2 * q + 1) * d = 2 * (q * d) + d := by grind
  rw [this]
  generalize q * d = p at *
  omega

theorem DivAt.done {a b d q r : Int} (H : DivAt a b d q r 0) : q = (a * 18446744073709551616 + b) / d ∧ r = (a * 18446744073709551616 + b) % d := by
  have v := H.v
  rw [Int.pow_zero, Int.ediv_one] at v
  have r0 := H.r0; have r1 := H.r1
  rw [← v, Int.add_comm, Int.add_mul_ediv_right _ _ (by omega), Int.add_mul_emod_self_right, Int.ediv_eq_zero_of_lt r0 r1, Int.emod_eq_of_lt r0 r1]
  omega

structure ShlAt (a h l : Int) (k : Nat) : Prop where
  h0 : 0 ≤ h
  h1 : h ≤ 18446744073709551615
  l0 : 0 ≤ l
  l1 : l ≤ 18446744073709551615
  v : h * 18446744073709551616 + l = a * 2 ^ k
theorem ShlAt.next {a h l : Int} {k : Nat} (H : ShlAt a h l k) (a0 : 0 ≤ a) (a1 : a ≤ 18446744073709551615) (hk : k < 64) :
    ShlAt a ((h + h + (l + l) / 18446744073709551616) % 18446744073709551616) ((l + l) % 18446744073709551616) (k + 1) := by
  have e : a * 2 ^ (k + 1) = 2 * (a * 2 ^ k) := by rw [Int.pow_succ]; grind
  have u : a * 2 ^ (k + 1) < 340282366920938463463374607431768211456 := by
    have h0 : (2 : Int) ^ (k + 1) ≤ 2 ^ 64 := by
      have := Nat.pow_le_pow_right (n := 2) (by decide) (show k + 1 ≤ 64 by omega)
      rw [pow_cast, pow_cast]; exact_mod_cast this
    have e64 : (2 : Int) ^ 64 = 18446744073709551616 := by decide
    have h1 : (2 : Int) ^ (k + 1) ≤ 18446744073709551616 := by omega
    have h2 : (0 : Int) < 2 ^ (k + 1) := Int.pow_pos (by decide)
    have := Int.mul_le_mul a1 h1 (by omega) (by decide)
    omega
  have := H.l0; have := H.l1; have := H.h0
  refine ⟨by omega, by omega, by omega, by omega, ?_⟩
  rw [two0 h l _ H.v H.l0 H.l1 H.h0 (by omega), e]
theorem ShlAt.done {a h l : Int} {k : Nat} (H : ShlAt a h l k) : h = a * 2 ^ k / 18446744073709551616 ∧ l = a * 2 ^ k % 18446744073709551616 := by
  rw [← H.v]
  have := H.l0; have := H.l1
  omega

structure ShrAt (a b h l : Int) (k : Nat) : Prop where
  h0 : 0 ≤ h
  h1 : h ≤ 18446744073709551615
  l0 : 0 ≤ l
  l1 : l ≤ 18446744073709551615
  v : h * 18446744073709551616 + l = (a * 18446744073709551616 + b) / 2 ^ k
theorem ShrAt.next {a b h l : Int} {k : Nat} (H : ShrAt a b h l k) : ShrAt a b (h / 2) (l / 2 + h % 2 * 9223372036854775808) (k + 1) := by
  have := H.l0; have := H.l1; have := H.h0; have := H.h1
  refine ⟨by omega, by omega, by omega, by omega, ?_⟩
  rw [← half_pow, ← H.v]; omega
theorem ShrAt.done {a b h l : Int} {k : Nat} (H : ShrAt a b h l k) : l = (a * 18446744073709551616 + b) / 2 ^ k % 18446744073709551616 := by
  rw [← H.v]
  have := H.l0; have := H.l1
  omega

theorem one (c : Int) (h0 : 0 ≤ c) (w : World) :
    Calls Try.prog 29 #[.int .u64 c] w fun e w' => e = .returned (.int .u64 (cry c)) ∧ w = w' := by
  go_enter Try.func29, Try.ntmps29
  go_wp2
  all_goals (go_ret; exact ⟨ret_int (by simp only [cry]; omega), rfl⟩)

theorem add (a b c : Int) (a0 : 0 ≤ a) (a1 : a ≤ 18446744073709551615) (b0 : 0 ≤ b) (b1 : b ≤ 18446744073709551615) (c0 : 0 ≤ c) (w : World) :
    Calls Try.prog 13 #[.int .u64 a, .int .u64 b, .int .u64 c] w fun e w' =>
      e = .returned (.tuple #[.int .u64 ((a + b + cry c) % 18446744073709551616), .int .u64 ((a + b + cry c) / 18446744073709551616)]) ∧ w = w' := by
  have ⟨k0, k1⟩ := cry_le c c0
  go_enter Try.func13, Try.ntmps13
  go_wp2_with (go_at_call 29; refine (one c c0 _).mono ?_; rintro e w' ⟨rfl, rfl⟩)
  go_light
  go_ret2
  exact ⟨ret2 (by omega) (by omega), rfl⟩
theorem add0 (a b : Int) (a0 : 0 ≤ a) (a1 : a ≤ 18446744073709551615) (b0 : 0 ≤ b) (b1 : b ≤ 18446744073709551615) (w : World) :
    Calls Try.prog 13 #[.int .u64 a, .int .u64 b, .int .u64 0] w fun e w' =>
      e = .returned (.tuple #[.int .u64 ((a + b) % 18446744073709551616), .int .u64 ((a + b) / 18446744073709551616)]) ∧ w = w' := by
  have h := add a b 0 a0 a1 b0 b1 (by decide) w
  rw [show cry 0 = 0 from rfl, Int.add_zero] at h
  exact h
theorem addc (a b c : Int) (a0 : 0 ≤ a) (a1 : a ≤ 18446744073709551615) (b0 : 0 ≤ b) (b1 : b ≤ 18446744073709551615) (c0 : 0 ≤ c) (c1 : c ≤ 1) (w : World) :
    Calls Try.prog 13 #[.int .u64 a, .int .u64 b, .int .u64 c] w fun e w' =>
      e = .returned (.tuple #[.int .u64 ((a + b + c) % 18446744073709551616), .int .u64 ((a + b + c) / 18446744073709551616)]) ∧ w = w' := by
  have h := add a b c a0 a1 b0 b1 c0 w
  rw [cry_of c c0 c1] at h
  exact h
theorem sub (a b c : Int) (a0 : 0 ≤ a) (a1 : a ≤ 18446744073709551615) (b0 : 0 ≤ b) (b1 : b ≤ 18446744073709551615) (c0 : 0 ≤ c) (w : World) :
    Calls Try.prog 15 #[.int .u64 a, .int .u64 b, .int .u64 c] w fun e w' =>
      e = .returned (.tuple #[.int .u64 ((a - b - cry c) % 18446744073709551616), .int .u64 (bor a (b + cry c))]) ∧ w = w' := by
  have ⟨k0, k1⟩ := cry_le c c0
  go_enter Try.func15, Try.ntmps15
  go_wp2_with (go_at_call 29; refine (one c c0 _).mono ?_; rintro e w' ⟨rfl, rfl⟩)
  all_goals go_light
  all_goals go_ret2
  all_goals exact ⟨ret2 (by omega) (by unfold bor; split <;> omega), rfl⟩
theorem sub0 (a b : Int) (a0 : 0 ≤ a) (a1 : a ≤ 18446744073709551615) (b0 : 0 ≤ b) (b1 : b ≤ 18446744073709551615) (w : World) :
    Calls Try.prog 15 #[.int .u64 a, .int .u64 b, .int .u64 0] w fun e w' =>
      e = .returned (.tuple #[.int .u64 ((a - b) % 18446744073709551616), .int .u64 (bor a b)]) ∧ w = w' := by
  have h := sub a b 0 a0 a1 b0 b1 (by decide) w
  rw [show cry 0 = 0 from rfl, Int.sub_zero, Int.add_zero] at h
  exact h
theorem bit (a : Int) (n : Nat) (a0 : 0 ≤ a) (a1 : a ≤ 18446744073709551615) (hn : n ≤ 64) (w : World) :
    Calls Try.prog 32 #[.int .u64 a, .int .i64 n] w fun e w' => e = .returned (.bool (a / 2 ^ n % 2 == 1)) ∧ w = w' := by
  go_enter Try.func32, Try.ntmps32
  go_wp2
  go_loop [0, 5] (fun s0 s5 => ∃ (x : Int) (i : Nat), i ≤ n ∧ 0 ≤ x ∧ x ≤ 18446744073709551615 ∧ s0 = .int .u64 x ∧ s5 = .int .i64 i ∧ Hid (x = a / 2 ^ i)) (fun _ s5 => n - (intOf s5).toNat)
  case atStart => exact ⟨a, 0, by omega, a0, a1, rfl, rfl, by simp [Hid]⟩
  case round =>
    obtain ⟨x, i, hi, x0, x1, rfl, rfl, hx⟩ := hrel
    by_cases hlt : i < n
    · go_wp2
      go_round
      case rel => exact ⟨x / 2, i + 1, by omega, by omega, by omega, rfl, by go_num, by rw [Hid, ← half_pow, ← hx.out]⟩
      case measure => simp [intOf]; omega
    · go_wp2
      go_ret
      obtain rfl : i = n := by omega
      exact ⟨ret_bool (by rw [← hx.out]), rfl⟩

set_option maxHeartbeats 1000000 in
theorem mul (a b : Int) (a0 : 0 ≤ a) (a1 : a ≤ 18446744073709551615) (b0 : 0 ≤ b) (b1 : b ≤ 18446744073709551615) (w : World) :
    Calls Try.prog 18 #[.int .u64 a, .int .u64 b] w fun e w' =>
      e = .returned (.tuple #[.int .u64 (a * b / 18446744073709551616), .int .u64 (a * b % 18446744073709551616)]) ∧ w = w' := by
  go_enter Try.func18, Try.ntmps18
  go_wp2
  go_loop [6, 7, 8] (fun s6 s7 s8 => ∃ (h l : Int) (k : Nat), s6 = .int .u64 h ∧ s7 = .int .u64 l ∧ s8 = .int .i64 ((k : Int) - 1) ∧ MulAt a b h l k) (fun _ _ s8 => (intOf s8 + 1).toNat)
  case atStart => exact ⟨0, 0, 64, rfl, rfl, rfl, ⟨by omega, by omega, by omega, by omega, by omega, by rw [Int.ediv_eq_zero_of_lt b0 (by have : (2 : Int) ^ 64 = 18446744073709551616 := (by decide); omega)]; simp⟩⟩
  case round =>
    obtain ⟨h, l, k, rfl, rfl, rfl, H⟩ := hrel
    have d1 := H.k1
    have d2 := H.h0
    have d3 := H.h1
    have d4 := H.l0
    have d5 := H.l1
    cases k with
    | zero =>
      go_wp2
      go_ret2
      exact ⟨ret2 H.done.1 H.done.2, rfl⟩
    | succ k =>
      have hk : ((k + 1 : Nat) : Int) - 1 = (k : Int) := by omega
      rw [hk]
      clear hk
      have n0 := H.next0 a0 a1 b0 b1
      have n1 := H.next1 a0 a1 b0 b1
      by_cases hb : b / 2 ^ k % 2 = 1
      · have hb' : (b / 2 ^ k % 2 == 1) = true := by simpa using hb
        have n1 := Lib.hid (n1 hb)
        clear hb n0
        go_wp2_with fail
        refine (add0 _ _ (by omega) (by omega) (by omega) (by omega) _).mono ?_; rintro e w' ⟨rfl, rfl⟩
        go_wp2_with fail
        refine (addc _ _ _ (by omega) (by omega) (by omega) (by omega) (by omega) (by omega) _).mono ?_; rintro e w' ⟨rfl, rfl⟩
        go_wp2_with fail
        refine (bit b k b0 b1 (by omega) _).mono ?_; rintro e w' ⟨rfl, rfl⟩
        go_wp2_with fail
        refine (add0 _ _ (by omega) (by omega) (by omega) (by omega) _).mono ?_; rintro e w' ⟨rfl, rfl⟩
        go_wp2_with fail
        refine (addc _ _ _ (by omega) (by omega) (by omega) (by omega) (by omega) (by omega) _).mono ?_; rintro e w' ⟨rfl, rfl⟩
        go_wp2_with fail
        go_round
        case rel => exact ⟨_, _, k, rfl, rfl, rfl, by simpa using n1.out⟩
        case measure => simp [intOf]
      · have hb' : (b / 2 ^ k % 2 == 1) = false := by simpa using hb
        have n0 := Lib.hid (n0 (by omega))
        clear hb n1
        go_wp2_with fail
        refine (add0 _ _ (by omega) (by omega) (by omega) (by omega) _).mono ?_; rintro e w' ⟨rfl, rfl⟩
        go_wp2_with fail
        refine (addc _ _ _ (by omega) (by omega) (by omega) (by omega) (by omega) (by omega) _).mono ?_; rintro e w' ⟨rfl, rfl⟩
        go_wp2_with fail
        refine (bit b k b0 b1 (by omega) _).mono ?_; rintro e w' ⟨rfl, rfl⟩
        go_wp2_with fail
        go_round
        case rel => exact ⟨_, _, k, rfl, rfl, rfl, n0.out⟩
        case measure => simp [intOf]

theorem div_zero (a b : Int) (w : World) :
    Calls Try.prog 20 #[.int .u64 a, .int .u64 b, .int .u64 0] w fun e w' => e = .returned (.tuple #[.int .u64 0, .int .u64 0, .int .i64 7]) ∧ w = w' := by
  go_enter Try.func20, Try.ntmps20
  go_wp2
  go_ret3
  exact ⟨rfl, rfl⟩
theorem div_long (a b d : Int) (d0 : 0 < d) (h : d ≤ a) (w : World) :
    Calls Try.prog 20 #[.int .u64 a, .int .u64 b, .int .u64 d] w fun e w' => e = .returned (.tuple #[.int .u64 0, .int .u64 0, .int .i64 5]) ∧ w = w' := by
  have h0 : (d == 0) = false := beq_eq_false_iff_ne.2 (by omega)
  go_enter Try.func20, Try.ntmps20
  go_wp2
  go_ret3
  exact ⟨rfl, rfl⟩
set_option maxHeartbeats 1000000 in
theorem div_ok (a b d : Int) (a0 : 0 ≤ a) (b0 : 0 ≤ b) (b1 : b ≤ 18446744073709551615) (h : a < d) (d1 : d ≤ 18446744073709551615) (w : World) :
    Calls Try.prog 20 #[.int .u64 a, .int .u64 b, .int .u64 d] w fun e w' =>
      e = .returned (.tuple #[.int .u64 ((a * 18446744073709551616 + b) / d), .int .u64 ((a * 18446744073709551616 + b) % d), .int .i64 0]) ∧ w = w' := by
  have h0 : (d == 0) = false := beq_eq_false_iff_ne.2 (by omega)
  go_enter Try.func20, Try.ntmps20
  go_wp2
  go_loop [9, 10, 11] (fun s9 s10 s11 => ∃ (q r : Int) (k : Nat), s9 = .int .u64 q ∧ s10 = .int .u64 r ∧ s11 = .int .i64 ((k : Int) - 1) ∧ DivAt a b d q r k) (fun _ _ s => (intOf s + 1).toNat)
  case atStart => exact ⟨0, a, 64, rfl, rfl, rfl, ⟨by omega, by omega, by decide, by omega, by omega, by
    have : (2 : Int) ^ 64 = 18446744073709551616 := (by decide)
    rw [this]; omega⟩⟩
  case round =>
    obtain ⟨q, r, k, rfl, rfl, rfl, H⟩ := hrel
    have e1 := H.k1
    have e2 := H.q0
    have e4 := H.r0
    have e5 := H.r1
    cases k with
    | zero =>
      go_wp2
      go_ret3
      exact ⟨ret3 H.done.1 H.done.2 rfl, rfl⟩
    | succ k =>
      have e3 := H.qb
      have hk : ((k + 1 : Nat) : Int) - 1 = (k : Int) := by omega
      rw [hk]
      clear hk
      by_cases hb : b / 2 ^ k % 2 = 1
      · have hb' : (b / 2 ^ k % 2 == 1) = true := by simpa using hb
        have hc : b / 2 ^ k % 2 = 1 := by omega
        have n0 := H.next0 hc d1
        have n1 := H.next1 hc d1
        
        clear hb hc
        by_cases t1 : (r + r + 1) / 18446744073709551616 = 1
        · have t1' : ((r + r + 1) / 18446744073709551616 == 1) = true := by simpa using t1
          have n1 := Lib.hid (n1 (.inl t1))
          clear t1 n0
          go_wp2_with fail
          refine (bit b k b0 b1 (by omega) _).mono ?_; rintro e w' ⟨rfl, rfl⟩
          go_wp2_with fail
          refine (addc _ _ 1 (by omega) (by omega) (by omega) (by omega) (by omega) (by omega) _).mono ?_; rintro e w' ⟨rfl, rfl⟩
          go_wp2_with fail
          refine (sub0 _ _ (by omega) (by omega) (by omega) (by omega) _).mono ?_; rintro e w' ⟨rfl, rfl⟩
          go_wp2_with fail
          go_round
          case rel => exact ⟨_, _, k, rfl, rfl, rfl, by simpa using n1.out⟩
          case measure => simp [intOf]
        · have t1' : ((r + r + 1) / 18446744073709551616 == 1) = false := by simpa using t1
          by_cases t2 : d ≤ (r + r + 1) % 18446744073709551616
          · have n1 := Lib.hid (n1 (.inr t2))
            clear t1 n0
            go_wp2_with fail
            refine (bit b k b0 b1 (by omega) _).mono ?_; rintro e w' ⟨rfl, rfl⟩
            go_wp2_with fail
            refine (addc _ _ 1 (by omega) (by omega) (by omega) (by omega) (by omega) (by omega) _).mono ?_; rintro e w' ⟨rfl, rfl⟩
            go_wp2_with fail
            refine (sub0 _ _ (by omega) (by omega) (by omega) (by omega) _).mono ?_; rintro e w' ⟨rfl, rfl⟩
            go_wp2_with fail
            go_round
            case rel => exact ⟨_, _, k, rfl, rfl, rfl, by simpa using n1.out⟩
            case measure => simp [intOf]
          · have n0 := Lib.hid (n0 t1 (by omega))
            clear t1 n1
            go_wp2_with fail
            refine (bit b k b0 b1 (by omega) _).mono ?_; rintro e w' ⟨rfl, rfl⟩
            go_wp2_with fail
            refine (addc _ _ 1 (by omega) (by omega) (by omega) (by omega) (by omega) (by omega) _).mono ?_; rintro e w' ⟨rfl, rfl⟩
            go_wp2_with fail
            go_round
            case rel => exact ⟨_, _, k, rfl, rfl, rfl, n0.out⟩
            case measure => simp [intOf]
      · have hb' : (b / 2 ^ k % 2 == 1) = false := by simpa using hb
        have hc : b / 2 ^ k % 2 = 0 := by omega
        have n0 := H.next0 hc d1
        have n1 := H.next1 hc d1
        rw [Int.add_zero] at n0 n1
        clear hb hc
        by_cases t1 : (r + r) / 18446744073709551616 = 1
        · have t1' : ((r + r) / 18446744073709551616 == 1) = true := by simpa using t1
          have n1 := Lib.hid (n1 (.inl t1))
          clear t1 n0
          go_wp2_with fail
          refine (bit b k b0 b1 (by omega) _).mono ?_; rintro e w' ⟨rfl, rfl⟩
          go_wp2_with fail
          refine (add0 _ _ (by omega) (by omega) (by omega) (by omega) _).mono ?_; rintro e w' ⟨rfl, rfl⟩
          go_wp2_with fail
          refine (sub0 _ _ (by omega) (by omega) (by omega) (by omega) _).mono ?_; rintro e w' ⟨rfl, rfl⟩
          go_wp2_with fail
          go_round
          case rel => exact ⟨_, _, k, rfl, rfl, rfl, by simpa using n1.out⟩
          case measure => simp [intOf]
        · have t1' : ((r + r) / 18446744073709551616 == 1) = false := by simpa using t1
          by_cases t2 : d ≤ (r + r) % 18446744073709551616
          · have n1 := Lib.hid (n1 (.inr t2))
            clear t1 n0
            go_wp2_with fail
            refine (bit b k b0 b1 (by omega) _).mono ?_; rintro e w' ⟨rfl, rfl⟩
            go_wp2_with fail
            refine (add0 _ _ (by omega) (by omega) (by omega) (by omega) _).mono ?_; rintro e w' ⟨rfl, rfl⟩
            go_wp2_with fail
            refine (sub0 _ _ (by omega) (by omega) (by omega) (by omega) _).mono ?_; rintro e w' ⟨rfl, rfl⟩
            go_wp2_with fail
            go_round
            case rel => exact ⟨_, _, k, rfl, rfl, rfl, by simpa using n1.out⟩
            case measure => simp [intOf]
          · have n0 := Lib.hid (n0 t1 (by omega))
            clear t1 n1
            go_wp2_with fail
            refine (bit b k b0 b1 (by omega) _).mono ?_; rintro e w' ⟨rfl, rfl⟩
            go_wp2_with fail
            refine (add0 _ _ (by omega) (by omega) (by omega) (by omega) _).mono ?_; rintro e w' ⟨rfl, rfl⟩
            go_wp2_with fail
            go_round
            case rel => exact ⟨_, _, k, rfl, rfl, rfl, n0.out⟩
            case measure => simp [intOf]

theorem len (a : Int) (h0 : 0 ≤ a) (h1 : a ≤ 18446744073709551615) (w : World) :
    Calls Try.prog 26 #[.int .u64 a] w fun e w' => e = .returned (.int .i64 (bitLen a.toNat)) ∧ w = w' := by
  have hl := bitLen_64 a.toNat (by omega)
  go_enter Try.func26, Try.ntmps26
  go_wp2
  go_loop [0, 3] (fun s0 s3 => ∃ (x : Int) (n : Nat), s0 = .int .u64 x ∧ s3 = .int .i64 n ∧ 0 ≤ x ∧ x ≤ 18446744073709551615 ∧ n ≤ 64 ∧ Hid (bitLen a.toNat = n + bitLen x.toNat)) (fun s0 _ => (intOf s0).toNat)
  case atStart => exact ⟨a, 0, rfl, rfl, h0, h1, by omega, by simp [Hid]⟩
  case round =>
    obtain ⟨x, n, rfl, rfl, x0, x1, hn, H⟩ := hrel
    by_cases hx : 0 < x
    · have hh := bitLen_half x.toNat (by omega)
      have hd : (x / 2).toNat = x.toNat / 2 := by omega
      have e : Hid (bitLen a.toNat = (n + 1 : Nat) + bitLen (x / 2).toNat) := by rw [Hid, H.out, hd, hh]; omega
      have hn' : n + 1 ≤ 64 := by have := H.out; omega
      clear hh hd
      go_wp2
      go_round
      case rel => exact ⟨x / 2, n + 1, rfl, by go_num, by omega, by omega, hn', e⟩
      case measure => simp [intOf]; omega
    · obtain rfl : x = 0 := by omega
      go_wp2
      go_ret
      exact ⟨ret_int (by rw [H.out]; simp [bitLen]), rfl⟩

theorem shl_no (a n : Int) (h : n < 0 ∨ 64 < n) (w : World) :
    Calls Try.prog 22 #[.int .u64 a, .int .i64 n] w fun e w' => e = .returned (.tuple #[.int .u64 0, .int .u64 0, .int .i64 1]) ∧ w = w' := by
  rcases h with h | h
  · go_enter Try.func22, Try.ntmps22
    go_wp2
    go_ret3
    exact ⟨rfl, rfl⟩
  · have h0 : 0 ≤ n := by omega
    go_enter Try.func22, Try.ntmps22
    go_wp2
    go_ret3
    exact ⟨rfl, rfl⟩
theorem shl_ok (a : Int) (n : Nat) (a0 : 0 ≤ a) (a1 : a ≤ 18446744073709551615) (h : n ≤ 64) (w : World) :
    Calls Try.prog 22 #[.int .u64 a, .int .i64 n] w fun e w' => e = .returned (.tuple #[.int .u64 (a * 2 ^ n / 18446744073709551616), .int .u64 (a * 2 ^ n % 18446744073709551616), .int .i64 0]) ∧ w = w' := by
  go_enter Try.func22, Try.ntmps22
  go_wp2
  go_loop [7, 8, 9] (fun s7 s8 s9 => ∃ (h l : Int) (k : Nat), s7 = .int .u64 h ∧ s8 = .int .u64 l ∧ s9 = .int .i64 k ∧ k ≤ n ∧ ShlAt a h l k) (fun _ _ s => n - (intOf s).toNat)
  case atStart => exact ⟨0, a, 0, rfl, rfl, rfl, by omega, ⟨by omega, by omega, a0, a1, by simp⟩⟩
  case round =>
    obtain ⟨x, l, k, rfl, rfl, rfl, hk, H⟩ := hrel
    have d2 := H.h0
    have d3 := H.h1
    have d4 := H.l0
    have d5 := H.l1
    by_cases hlt : k < n
    · have nx := Lib.hid (H.next a0 a1 (by omega))
      go_wp2_with fail
      refine (add0 _ _ (by omega) (by omega) (by omega) (by omega) _).mono ?_; rintro e w' ⟨rfl, rfl⟩
      go_wp2_with fail
      refine (addc _ _ _ (by omega) (by omega) (by omega) (by omega) (by omega) (by omega) _).mono ?_; rintro e w' ⟨rfl, rfl⟩
      go_wp2_with fail
      go_round
      case rel => exact ⟨_, _, k + 1, rfl, rfl, by go_num, by omega, nx.out⟩
      case measure => simp [intOf]; omega
    · obtain rfl : k = n := by omega
      go_wp2
      go_ret3
      exact ⟨ret3 H.done.1 H.done.2 rfl, rfl⟩
theorem shr_no (a b n : Int) (h : n < 0 ∨ 64 < n) (w : World) :
    Calls Try.prog 24 #[.int .u64 a, .int .u64 b, .int .i64 n] w fun e w' => e = .returned (.tuple #[.int .u64 0, .int .i64 1]) ∧ w = w' := by
  rcases h with h | h
  · go_enter Try.func24, Try.ntmps24
    go_wp2
    go_ret2
    exact ⟨rfl, rfl⟩
  · have h0 : 0 ≤ n := by omega
    go_enter Try.func24, Try.ntmps24
    go_wp2
    go_ret2
    exact ⟨rfl, rfl⟩
theorem shr_ok (a b : Int) (n : Nat) (a0 : 0 ≤ a) (a1 : a ≤ 18446744073709551615) (b0 : 0 ≤ b) (b1 : b ≤ 18446744073709551615) (h : n ≤ 64) (w : World) :
    Calls Try.prog 24 #[.int .u64 a, .int .u64 b, .int .i64 n] w fun e w' => e = .returned (.tuple #[.int .u64 ((a * 18446744073709551616 + b) / 2 ^ n % 18446744073709551616), .int .i64 0]) ∧ w = w' := by
  go_enter Try.func24, Try.ntmps24
  go_wp2
  go_loop [0, 1, 8] (fun s7 s8 s9 => ∃ (h l : Int) (k : Nat), s7 = .int .u64 h ∧ s8 = .int .u64 l ∧ s9 = .int .i64 k ∧ k ≤ n ∧ ShrAt a b h l k) (fun _ _ s => n - (intOf s).toNat)
  case atStart => exact ⟨a, b, 0, rfl, rfl, rfl, by omega, ⟨a0, a1, b0, b1, by simp⟩⟩
  case round =>
    obtain ⟨x, l, k, rfl, rfl, rfl, hk, H⟩ := hrel
    have d2 := H.h0
    have d3 := H.h1
    have d4 := H.l0
    have d5 := H.l1
    by_cases hlt : k < n
    · have nx := Lib.hid H.next
      go_wp2
      go_round
      case rel => exact ⟨_, _, k + 1, rfl, rfl, by go_num, by omega, nx.out⟩
      case measure => simp [intOf]; omega
    · obtain rfl : k = n := by omega
      go_wp2
      go_ret2
      exact ⟨ret2 H.done rfl, rfl⟩
end Go.Proofs.R1
