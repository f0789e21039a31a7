/- The statement WordTurns: Shl is a product by a power of 2, Shr takes it back, and Shr by n and then by m is Shr by both. No condition. -/
import Derived.Test.YthmncoonclcjcaaRows
import Derived.WalkKit
import Derived.ProofKit
import Derived.OpenShut
import Derived.Test.YthmncoonclcjcaaWordAwake
import Derived.ShutString
namespace Go.Proofs.Ythmncoonclcjcaa.wordTurns
open Go.ChangeShapes Go.WideShapes Go.ChangeAt Go.RowKit
open Go.Proofs
open Go.ChangeMaps (open_string shut_string)
set_option linter.unusedVariables false      -- a walk need not use every 'w<i>' (that an integer argument fits its kind)

theorem own : ownKnob Try.prog.godebug = none := by kernel_rfl

structure Turn (a b h low p y down z up : Int) (k : Nat) : Prop where
  h0 : 0 ≤ h
  h1 : h ≤ 18446744073709551615
  l0 : 0 ≤ low
  l1 : low ≤ 18446744073709551615
  up1 : up ≤ a
  z0 : 0 ≤ z
  d0 : 0 ≤ down
  y1 : z + down ≤ 18446744073709551615
  shl1 : ∀ w, Calls Try.prog 21 #[.int .u64 a, .int .i64 k] w fun e w' => e = .returned (.tuple #[.int .u64 h, .int .u64 low, .int .i64 0]) ∧ ∃ j, w.drewN j = w'
  shr1 : ∀ w, Calls Try.prog 23 #[.int .u64 h, .int .u64 low, .int .i64 k] w fun e w' => e = .returned (.tuple #[.int .u64 a, .int .i64 0]) ∧ ∃ j, w.drewN j = w'
  mul1 : (k = 64 ∧ h = a ∧ low = 0) ∨ (k < 64 ∧ IntKind.u64.wrap (2 ^ k) = p ∧ ∀ w, Calls Try.prog 17 #[.int .u64 a, .int .u64 p] w fun e w' => e = .returned (.tuple #[.int .u64 h, .int .u64 low]) ∧ w = w')
  shr2 : ∀ w, Calls Try.prog 23 #[.int .u64 a, .int .u64 b, .int .i64 k] w fun e w' => e = .returned (.tuple #[.int .u64 (z + down), .int .i64 0]) ∧ ∃ j, w.drewN j = w'
  shl2 : ∀ w, Calls Try.prog 21 #[.int .u64 a, .int .i64 (64 - (k : Int))] w fun e w' => e = .returned (.tuple #[.int .u64 up, .int .u64 down, .int .i64 0]) ∧ ∃ j, w.drewN j = w'
  shr3 : ∀ w, Calls Try.prog 23 #[.int .u64 0, .int .u64 b, .int .i64 k] w fun e w' => e = .returned (.tuple #[.int .u64 z, .int .i64 0]) ∧ ∃ j, w.drewN j = w'

theorem turn (a b k : Nat) (a1 : a < 18446744073709551616) (b1 : b < 18446744073709551616) (hk : k ≤ 64) :
    ∃ h low p y down z up, Turn (a : Int) (b : Int) h low p y down z up k := by
  have ps := W.pow_split k hk
  have p0 := Nat.two_pow_pos k
  have p1 := Nat.two_pow_pos (64 - k)
  have q1 : 2 ^ k ≤ 18446744073709551616 := by rw [← ps]; exact Nat.le_mul_of_pos_right _ p1
  have q2 : 2 ^ (64 - k) ≤ 18446744073709551616 := by rw [← ps]; exact Nat.le_mul_of_pos_left _ p0
  have e1 : a * 2 ^ k / 18446744073709551616 < 18446744073709551616 := by
    rw [Nat.div_lt_iff_lt_mul (by decide)]
    have := Nat.mul_le_mul (show a ≤ 18446744073709551615 by omega) q1
    omega
  have e2 : a * 2 ^ k / 18446744073709551616 * 18446744073709551616 + a * 2 ^ k % 18446744073709551616 = a * 2 ^ k := by omega
  have e3 : (a * 2 ^ k) / 2 ^ k = a := Nat.mul_div_cancel _ p0
  have e4 : (a * 18446744073709551616 + b) / 2 ^ k = a * 2 ^ (64 - k) + b / 2 ^ k := by
    rw [← ps, Nat.mul_left_comm, Nat.add_comm, Nat.add_mul_div_left _ _ p0, Nat.add_comm]
  have e5 : b / 2 ^ k < 2 ^ (64 - k) := by rw [Nat.div_lt_iff_lt_mul p0, Nat.mul_comm, ps]; exact b1
  have e6 : a * 2 ^ (64 - k) % 18446744073709551616 + 2 ^ (64 - k) ≤ 18446744073709551616 := by
    have : a * 2 ^ (64 - k) % 18446744073709551616 = (a % 2 ^ k) * 2 ^ (64 - k) := by rw [← ps, Nat.mul_mod_mul_right]
    rw [this, ← ps, ← Nat.succ_mul]; exact Nat.mul_le_mul_right _ (Nat.mod_lt _ p0)
  have e8 : a * 2 ^ (64 - k) ≤ a * 18446744073709551616 := Nat.mul_le_mul_left _ q2
  have e9 : k < 64 → 2 ^ k * 2 ≤ 18446744073709551616 := by
    intro hlt; rw [← Nat.pow_succ]; exact Nat.pow_le_pow_right (n := 2) (by decide) (show k + 1 ≤ 64 by omega)
  have s64 : k = 64 → a * 2 ^ k = a * 18446744073709551616 := by rintro rfl; rfl
  have f1 := fun w => W.shl_ok (a : Int) k (by omega) (by omega) hk w
  have f2 := fun w => W.shr_ok ((a * 2 ^ k / 18446744073709551616 : Nat) : Int) ((a * 2 ^ k % 18446744073709551616 : Nat) : Int) k (by omega) (by omega) (by omega) (by omega) hk w
  have f3 := fun (h : k < 64) w => W.mul (a : Int) ((2 ^ k : Nat) : Int) (by omega) (by omega) (by omega) (by have := e9 h; omega) w
  have f4 := fun w => W.shr_ok (a : Int) (b : Int) k (by omega) (by omega) (by omega) (by omega) hk w
  have f5 := fun w => W.shl_ok (a : Int) (64 - k) (by omega) (by omega) (by omega) w
  have f6 := fun w => W.shr_ok 0 (b : Int) k (by decide) (by decide) (by omega) (by omega) hk w
  rw [show ((a * 2 ^ k / 18446744073709551616 : Nat) : Int) * 18446744073709551616 + ((a * 2 ^ k % 18446744073709551616 : Nat) : Int) = ((a * 2 ^ k : Nat) : Int) by omega] at f2
  rw [show ((a : Int) * 18446744073709551616 + (b : Int)) = ((a * 18446744073709551616 + b : Nat) : Int) by omega] at f4
  rw [Int.zero_mul, Int.zero_add] at f6
  rw [W.pow_cast] at f1 f2 f4 f5 f6
  rw [← Int.natCast_ediv, e3] at f2
  rw [← Int.natCast_ediv, e4] at f4
  rw [← Int.natCast_ediv] at f6
  rw [W.mulN] at f1 f3 f5
  obtain ⟨S, hS⟩ : ∃ S, a * 2 ^ k = S := ⟨_, rfl⟩
  obtain ⟨A, hA⟩ : ∃ A, a * 2 ^ (64 - k) = A := ⟨_, rfl⟩
  obtain ⟨D, hD⟩ : ∃ D, b / 2 ^ k = D := ⟨_, rfl⟩
  have pc := W.pow_cast k
  obtain ⟨P, hP⟩ : ∃ P, 2 ^ k = P := ⟨_, rfl⟩
  obtain ⟨R, hR⟩ : ∃ P, 2 ^ (64 - k) = P := ⟨_, rfl⟩
  rw [hS] at e1 e2 f1 f2 f3 s64
  rw [hA] at e6 e8 f4 f5
  rw [hD] at e5 f4 f6
  rw [hP] at f3 e9 pc q1 p0
  rw [hR] at e5 e6 q2 p1
  clear hS hA hD hR e3 e4 ps
  have g1 : ((S : Nat) : Int) / 18446744073709551616 = ((S / 18446744073709551616 : Nat) : Int) := by omega
  have g2 : ((S : Nat) : Int) % 18446744073709551616 = ((S % 18446744073709551616 : Nat) : Int) := by omega
  have g3 : ((A : Nat) : Int) / 18446744073709551616 = ((A / 18446744073709551616 : Nat) : Int) := by omega
  have g4 : ((A : Nat) : Int) % 18446744073709551616 = ((A % 18446744073709551616 : Nat) : Int) := by omega
  rw [g1, g2] at f1 f3
  rw [g3, g4] at f5
  rw [show (a : Int) % 18446744073709551616 = a by omega] at f2
  rw [show ((A + D : Nat) : Int) % 18446744073709551616 = ((D : Nat) : Int) + ((A % 18446744073709551616 : Nat) : Int) by omega] at f4
  rw [show (D : Int) % 18446744073709551616 = D by omega] at f6
  rw [show ((64 - k : Nat) : Int) = 64 - (k : Int) by omega] at f5
  refine ⟨((S / 18446744073709551616 : Nat) : Int), ((S % 18446744073709551616 : Nat) : Int), ((P : Nat) : Int), 0, ((A % 18446744073709551616 : Nat) : Int), ((D : Nat) : Int), ((A / 18446744073709551616 : Nat) : Int),
    by omega, by omega, by omega, by omega, by omega, by omega, by omega, by omega, f1, f2, ?_, f4, f5, f6⟩
  rcases Nat.lt_or_ge k 64 with hlt | hge
  · exact .inr ⟨hlt, by rw [pc]; exact W.wrapN _ (by have := e9 hlt; omega), f3 hlt⟩
  · have := s64 (by omega)
    exact .inl ⟨by omega, by omega, by omega⟩
structure Thrice (a v t : Int) (k l : Nat) : Prop where
  s1 : ∀ w, Calls Try.prog 23 #[.int .u64 0, .int .u64 a, .int .i64 k] w fun e w' => e = .returned (.tuple #[.int .u64 v, .int .i64 0]) ∧ ∃ j, w.drewN j = w'
  s2 : ∀ w, Calls Try.prog 23 #[.int .u64 0, .int .u64 v, .int .i64 l] w fun e w' => e = .returned (.tuple #[.int .u64 t, .int .i64 0]) ∧ ∃ j, w.drewN j = w'
  s3 : ∀ w, Calls Try.prog 23 #[.int .u64 0, .int .u64 a, .int .i64 ((k : Int) + (l : Int))] w fun e w' => e = .returned (.tuple #[.int .u64 t, .int .i64 0]) ∧ ∃ j, w.drewN j = w'

theorem shr0 (a k : Nat) (a1 : a < 18446744073709551616) (hk : k ≤ 64) (w : World) : Calls Try.prog 23 #[.int .u64 0, .int .u64 (a : Int), .int .i64 k] w fun e w' => e = .returned (.tuple #[.int .u64 ((a / 2 ^ k : Nat) : Int), .int .i64 0]) ∧ ∃ j, w.drewN j = w' := by
  have h := W.shr_ok 0 (a : Int) k (by decide) (by decide) (by omega) (by omega) hk w
  have : a / 2 ^ k ≤ a := Nat.div_le_self _ _
  rw [Int.zero_mul, Int.zero_add, W.pow_cast, ← Int.natCast_ediv] at h
  generalize a / 2 ^ k = q at *
  rw [show ((q : Nat) : Int) % 18446744073709551616 = ((q : Nat) : Int) by omega] at h
  exact h

theorem thrice (a k l : Nat) (a1 : a < 18446744073709551616) (h : k + l ≤ 64) : ∃ v t, Thrice (a : Int) v t k l := by
  have : a / 2 ^ k ≤ a := Nat.div_le_self _ _
  refine ⟨((a / 2 ^ k : Nat) : Int), ((a / 2 ^ k / 2 ^ l : Nat) : Int), shr0 a k a1 (by omega), shr0 _ l (by omega) (by omega), ?_⟩
  intro w
  have e := shr0 a (k + l) a1 h w
  rw [Nat.pow_add, ← Nat.div_div_eq_div_mul, Int.natCast_add] at e
  exact e

set_option maxHeartbeats 2000000 in
set_option maxRecDepth 100000 in
theorem main (a b h low p y down z up n m : Int) (k l : Nat) (n0 : 0 ≤ n) (n1 : n ≤ 255) (m0 : 0 ≤ m) (m1 : m ≤ 255) (hk : n % 65 = (k : Int)) (hl : m % 65 = (l : Int)) (T : Turn a b h low p y down z up k) (T3 : k + l ≤ 64 → ∃ v t, Thrice a v t k l) (w : World) :
    Calls Try.prog 11 #[.int .u64 a, .int .u64 b, .int .u8 n, .int .u8 m] w fun e w' => e = .returned (.bool true) ∧ Grown w w' := by
  have d1 := T.up1
  have d2 := T.z0
  have d3 := T.d0
  have d4 := T.y1
  have hk1 : k ≤ 64 := by omega
  have hl1 : l ≤ 64 := by omega
  rcases T.mul1 with ⟨rfl, rfl, rfl⟩ | ⟨hlt, hp, hm⟩
  · by_cases hs : 0 < l
    · clear T3
      go_enter Try.func11, Try.ntmps11
      go_wp2_with fail
      refine (LW.awake _).mono ?_; rintro e w' ⟨rfl, _, rfl⟩
      go_wp2_with fail
      refine (T.shl1 _).mono ?_; rintro e w' ⟨rfl, _, rfl⟩
      go_wp2_with fail
      refine (T.shr1 _).mono ?_; rintro e w' ⟨rfl, _, rfl⟩
      go_wp2_with fail
      refine (T.shr2 _).mono ?_; rintro e w' ⟨rfl, _, rfl⟩
      go_wp2_with fail
      refine (T.shl2 _).mono ?_; rintro e w' ⟨rfl, _, rfl⟩
      go_wp2_with fail
      refine (T.shr3 _).mono ?_; rintro e w' ⟨rfl, _, rfl⟩
      go_wp2_with fail
      go_ret
      exact ⟨rfl, Grown.refl _⟩
    · obtain rfl : l = 0 := by omega
      obtain ⟨v, t, H3⟩ := T3 (by omega)
      clear T3
      go_enter Try.func11, Try.ntmps11
      go_wp2_with fail
      refine (LW.awake _).mono ?_; rintro e w' ⟨rfl, _, rfl⟩
      go_wp2_with fail
      refine (T.shl1 _).mono ?_; rintro e w' ⟨rfl, _, rfl⟩
      go_wp2_with fail
      refine (T.shr1 _).mono ?_; rintro e w' ⟨rfl, _, rfl⟩
      go_wp2_with fail
      refine (T.shr2 _).mono ?_; rintro e w' ⟨rfl, _, rfl⟩
      go_wp2_with fail
      refine (T.shl2 _).mono ?_; rintro e w' ⟨rfl, _, rfl⟩
      go_wp2_with fail
      refine (T.shr3 _).mono ?_; rintro e w' ⟨rfl, _, rfl⟩
      go_wp2_with fail
      refine (H3.s1 _).mono ?_; rintro e w' ⟨rfl, _, rfl⟩
      go_wp2_with fail
      refine (H3.s2 _).mono ?_; rintro e w' ⟨rfl, _, rfl⟩
      go_wp2_with fail
      refine (H3.s3 _).mono ?_; rintro e w' ⟨rfl, _, rfl⟩
      go_wp2_with fail
      go_ret
      exact ⟨rfl, Grown.refl _⟩
  · have hM := Lib.hid hm
    clear hm
    by_cases hs : 64 < k + l
    · clear T3
      go_enter Try.func11, Try.ntmps11
      go_wp2_with fail
      refine (LW.awake _).mono ?_; rintro e w' ⟨rfl, _, rfl⟩
      go_wp2_with fail
      refine (T.shl1 _).mono ?_; rintro e w' ⟨rfl, _, rfl⟩
      go_wp2_with fail
      refine (T.shr1 _).mono ?_; rintro e w' ⟨rfl, _, rfl⟩
      go_wp2_with fail
      refine (hM.out _).mono ?_; rintro e w' ⟨rfl, rfl⟩
      go_wp2_with fail
      refine (T.shr2 _).mono ?_; rintro e w' ⟨rfl, _, rfl⟩
      go_wp2_with fail
      refine (T.shl2 _).mono ?_; rintro e w' ⟨rfl, _, rfl⟩
      go_wp2_with fail
      refine (T.shr3 _).mono ?_; rintro e w' ⟨rfl, _, rfl⟩
      go_wp2_with fail
      go_ret
      exact ⟨rfl, Grown.refl _⟩
    · obtain ⟨v, t, H3⟩ := T3 (by omega)
      clear T3
      go_enter Try.func11, Try.ntmps11
      go_wp2_with fail
      refine (LW.awake _).mono ?_; rintro e w' ⟨rfl, _, rfl⟩
      go_wp2_with fail
      refine (T.shl1 _).mono ?_; rintro e w' ⟨rfl, _, rfl⟩
      go_wp2_with fail
      refine (T.shr1 _).mono ?_; rintro e w' ⟨rfl, _, rfl⟩
      go_wp2_with fail
      refine (hM.out _).mono ?_; rintro e w' ⟨rfl, rfl⟩
      go_wp2_with fail
      refine (T.shr2 _).mono ?_; rintro e w' ⟨rfl, _, rfl⟩
      go_wp2_with fail
      refine (T.shl2 _).mono ?_; rintro e w' ⟨rfl, _, rfl⟩
      go_wp2_with fail
      refine (T.shr3 _).mono ?_; rintro e w' ⟨rfl, _, rfl⟩
      go_wp2_with fail
      refine (H3.s1 _).mono ?_; rintro e w' ⟨rfl, _, rfl⟩
      go_wp2_with fail
      refine (H3.s2 _).mono ?_; rintro e w' ⟨rfl, _, rfl⟩
      go_wp2_with fail
      refine (H3.s3 _).mono ?_; rintro e w' ⟨rfl, _, rfl⟩
      go_wp2_with fail
      go_ret
      exact ⟨rfl, Grown.refl _⟩

/-! ### STEP 1: THE WALK: the Go text returns true. 'Grown w w'': the world has at most new blocks (Derived/RowKit3.lean). Part the cases AHEAD of 'go_enter' where a test parts the walk; take each callee by a contract of your own. -/
theorem walk (a0 : Int) (a1 : Int) (a2 : Int) (a3 : Int) (w0 : (Lit.int .u64 a0).wf = true) (w1 : (Lit.int .u64 a1).wf = true) (w2 : (Lit.int .u8 a2).wf = true) (w3 : (Lit.int .u8 a3).wf = true) (w : World) :
    Calls Try.prog 11 #[.int .u64 a0, .int .u64 a1, .int .u8 a2, .int .u8 a3] w fun e w' => e = .returned (.bool true) ∧ Grown w w' := by
  obtain ⟨a00, a01⟩ := bounds_u64 w0
  obtain ⟨a10, a11⟩ := bounds_u64 w1
  obtain ⟨a20, a21⟩ := bounds_u8 w2
  obtain ⟨a30, a31⟩ := bounds_u8 w3
  clear w0 w1 w2 w3
  obtain ⟨a, rfl⟩ := Int.eq_ofNat_of_zero_le a00
  obtain ⟨b, rfl⟩ := Int.eq_ofNat_of_zero_le a10
  obtain ⟨k, hk⟩ := Int.eq_ofNat_of_zero_le (show 0 ≤ a2 % 65 by omega)
  obtain ⟨l, hl⟩ := Int.eq_ofNat_of_zero_le (show 0 ≤ a3 % 65 by omega)
  obtain ⟨h, low, p, y, down, z, up, T⟩ := turn a b k (by omega) (by omega) (by omega)
  exact main a b h low p y down z up a2 a3 k l a20 a21 a30 a31 hk hl T (fun hkl => thrice a k l (by omega) hkl) w

/-! ### THE ROW's STEP: WRITTEN OUT: LEAVE IT -/
set_option maxRecDepth 100000 in
theorem lifted (os : Os) (started : os.Started) (H : Type) (enc : TypeId × Value → H) :
    ReturnsInHanded {} Try.checked os 11 .any (Rows.wordTurnsSpec.pre6 enc Try.prog Try.f11 Rows.wordTurnsRow.domain false) (Rows.wordTurnsSpec.post enc Try.prog Try.f11 false true false false) := by
  refine returnsInHanded_of_change (C := Try.checked) own started (by kernel_rfl) Try.func11
    (ChangeSpec.witness6 (enc := enc) (C := Try.checked) false ⟨#[], #[.int .u64 0, .int .u64 0, .int .u8 0, .int .u8 0], []⟩ 8 (by kernel_rfl) (by kernel_rfl) (by kernel_rfl) (by kernel_rfl)) ?_
  intro W base args ds gs before hval0 hW hcnd _
  have hval : ∀ (j : Nat) t v, Try.f11.params[j]? = some t → args[j]? = some v → Value.okWide Try.prog W .any base t v := hval0
  have hW' := hW
  obtain ⟨p, q, hA0, hV, rfl, hfz, hnd⟩ := hW
  have hA : DataW.TrodAll enc Try.prog W 0 (fun _ => true) true Try.f11.params.toList args.toList ds p := hA0
  rw [Try.params11] at hA hval
  obtain ⟨v0, vs0, d0, ds0, p0, q0, hargs, rfl, rfl, h0, r0⟩ := trodAll_cons hA
  obtain ⟨v1, vs1, d1, ds1, p1, q1, rfl, rfl, rfl, h1, r1⟩ := trodAll_cons r0
  obtain ⟨v2, vs2, d2, ds2, p2, q2, rfl, rfl, rfl, h2, r2⟩ := trodAll_cons r1
  obtain ⟨v3, vs3, d3, ds3, p3, q3, rfl, rfl, rfl, h3, r3⟩ := trodAll_cons r2
  obtain ⟨rfl, rfl, rfl⟩ := trodAll_nil r3
  obtain rfl : args = #[v0, v1, v2, v3] := by cases args; simp_all
  obtain ⟨rfl, rfl⟩ := trodVars_none hV
  obtain ⟨a0, rfl, rfl, rfl, w0⟩ := open_int Try.underlying22 (hval 0 22 v0 rfl rfl) h0
  obtain ⟨a1, rfl, rfl, rfl, w1⟩ := open_int Try.underlying22 (hval 1 22 v1 rfl rfl) h1
  obtain ⟨a2, rfl, rfl, rfl, w2⟩ := open_int Try.underlying5 (hval 2 5 v2 rfl rfl) h2
  obtain ⟨a3, rfl, rfl, rfl, w3⟩ := open_int Try.underlying5 (hval 3 5 v3 rfl rfl) h3
  clear hA0 hval0
  simp only [List.append_nil] at hW'
  refine (walk a0 a1 a2 a3 w0 w1 w2 w3 W).mono fun e W' ⟨he, hg⟩ => ?_
  subst he
  exact ⟨_, rfl, post_of_same (pa := []) (pv := []) hW' (fun _ _ _ => (trodAll_cons_mk (shut_bool Try.underlying4 _) trodAll_mk0)) (fun sp _ => (trodAll_cons_mk (shut_int Try.underlying22 w0) (trodAll_cons_mk (shut_int Try.underlying22 w1) (trodAll_cons_mk (shut_int Try.underlying5 w2) (trodAll_cons_mk (shut_int Try.underlying5 w3) trodAll_mk0))))) (fun _ _ => rfl) rfl
    (hg.frame _) hg.2.1 (ok_one (by kernel_rfl) rfl (okWide_bool_mk Try.underlying4 _))⟩

theorem over : Rows.wordTurnsRow.holds Try.pinned (OpenSpec.ofChange Rows.wordTurnsSpec) :=
  OpenClaim.holds_of_wide 11 Try.f11 rfl rfl rfl rfl rfl rfl rfl ⟨rfl, rfl, rfl, rfl, rfl⟩ rfl rfl rfl rfl rfl (by kernel_rfl) Try.func11 (by kernel_rfl)
    (of_decide_eq_true (by kernel_rfl)) (by unfold Func.isWrapper; first | (rw [if_pos (by decide +kernel)]; kernel_rfl) | (rw [if_neg (by decide +kernel)]; exact ⟨rfl, rfl⟩))
    (fun os started H enc _ => lifted os started H enc)

/-- ████ THE STATEMENT ████ -/
theorem proved : Rows.WordTurnsSaid :=
  over
#print axioms proved
end Go.Proofs.Ythmncoonclcjcaa.wordTurns
