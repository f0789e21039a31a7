/- The statement WordRing: sums and products of words do not hang on the row, and a product by a sum is the sum of the products, carries included. No condition. -/
import Derived.Test.YthmncoonclcjcaaRows
import Derived.WalkKit
import Derived.ProofKit
import Derived.OpenShut
import Derived.Test.YthmncoonclcjcaaWordAwake
import Derived.ShutString
namespace Go.Proofs.Ythmncoonclcjcaa.wordRing
open Go.ChangeShapes Go.WideShapes Go.ChangeAt Go.RowKit
open Go.Proofs
open Go.ChangeMaps (open_string shut_string)
set_option linter.unusedVariables false      -- a walk need not use every 'w<i>' (that an integer argument fits its kind)

theorem own : ownKnob Try.prog.godebug = none := by kernel_rfl

structure Ring (a b c s out h l k m q x P over p : Int) : Prop where
  s0 : 0 ≤ s
  s1 : s ≤ 18446744073709551615
  p0 : 0 ≤ p
  add1 : ∀ w, Calls Try.prog 12 #[.int .u64 b, .int .u64 c, .int .u64 0] w fun e w' => e = .returned (.tuple #[.int .u64 s, .int .u64 out]) ∧ w = w'
  add2 : ∀ w, Calls Try.prog 12 #[.int .u64 c, .int .u64 b, .int .u64 0] w fun e w' => e = .returned (.tuple #[.int .u64 s, .int .u64 out]) ∧ w = w'
  mul1 : ∀ w, Calls Try.prog 17 #[.int .u64 a, .int .u64 b] w fun e w' => e = .returned (.tuple #[.int .u64 h, .int .u64 l]) ∧ w = w'
  mul2 : ∀ w, Calls Try.prog 17 #[.int .u64 b, .int .u64 a] w fun e w' => e = .returned (.tuple #[.int .u64 h, .int .u64 l]) ∧ w = w'
  mul3 : ∀ w, Calls Try.prog 17 #[.int .u64 a, .int .u64 c] w fun e w' => e = .returned (.tuple #[.int .u64 k, .int .u64 m]) ∧ w = w'
  add3 : ∀ w, Calls Try.prog 12 #[.int .u64 l, .int .u64 m, .int .u64 0] w fun e w' => e = .returned (.tuple #[.int .u64 q, .int .u64 x]) ∧ w = w'
  add4 : ∀ w, Calls Try.prog 12 #[.int .u64 h, .int .u64 k, .int .u64 x] w fun e w' => e = .returned (.tuple #[.int .u64 P, .int .u64 over]) ∧ w = w'
  mul4 : ∀ w, Calls Try.prog 17 #[.int .u64 a, .int .u64 s] w fun e w' => e = .returned (.tuple #[.int .u64 p, .int .u64 q]) ∧ w = w'
  mul5 : ∀ w, Calls Try.prog 17 #[.int .u64 a, .int .u64 0] w fun e w' => e = .returned (.tuple #[.int .u64 0, .int .u64 0]) ∧ w = w'
  mul6 : ∀ w, Calls Try.prog 17 #[.int .u64 a, .int .u64 1] w fun e w' => e = .returned (.tuple #[.int .u64 0, .int .u64 a]) ∧ w = w'
  fin : (out = 0 ∧ P = p ∧ over = 0) ∨ (out = 1 ∧ ∀ w, Calls Try.prog 12 #[.int .u64 p, .int .u64 a, .int .u64 0] w fun e w' => e = .returned (.tuple #[.int .u64 P, .int .u64 over]) ∧ w = w')

theorem add0 (a b : Int) (a0 : 0 ≤ a) (b0 : 0 ≤ b) (w : World) :
    Calls Try.prog 12 #[.int .u64 a, .int .u64 b, .int .u64 0] w fun e w' => e = .returned (.tuple #[.int .u64 ((a + b) % 18446744073709551616), .int .u64 ((a + b) / 18446744073709551616)]) ∧ w = w' := by
  have h := W.add a b 0 a0 b0 (by decide) (by decide) w
  rw [show W.cry 0 = 0 from rfl, Int.add_zero] at h
  exact h

theorem ring (a b c : Int) (a0 : 0 ≤ a) (a1 : a ≤ 18446744073709551615) (b0 : 0 ≤ b) (b1 : b ≤ 18446744073709551615) (c0 : 0 ≤ c) (c1 : c ≤ 18446744073709551615) :
    ∃ s out h l k m q x P over p, Ring a b c s out h l k m q x P over p := by
  have hb := Int.mul_nonneg a0 b0
  have hc := Int.mul_nonneg a0 c0
  have hb1 := Int.mul_le_mul a1 b1 b0 (by decide)
  have hc1 := Int.mul_le_mul a1 c1 c0 (by decide)
  have hs0 : 0 ≤ (b + c) % 18446744073709551616 := by omega
  have hs1 : (b + c) % 18446744073709551616 ≤ 18446744073709551615 := by omega
  have has := Int.mul_nonneg a0 hs0
  have has1 := Int.mul_le_mul a1 hs1 hs0 (by decide)
  have key : a * ((b + c) % 18446744073709551616) = a * b + a * c - (b + c) / 18446744073709551616 * (a * 18446744073709551616) := by
    rw [show (b + c) % 18446744073709551616 = b + c - (b + c) / 18446744073709551616 * 18446744073709551616 by omega]; grind
  have ho : (b + c) / 18446744073709551616 = 0 ∨ (b + c) / 18446744073709551616 = 1 := by omega
  obtain ⟨AB, hAB⟩ : ∃ AB, a * b = AB := ⟨_, rfl⟩
  obtain ⟨AC, hAC⟩ : ∃ AC, a * c = AC := ⟨_, rfl⟩
  obtain ⟨AS, hAS⟩ : ∃ AS, a * ((b + c) % 18446744073709551616) = AS := ⟨_, rfl⟩
  rw [hAB] at hb hb1
  rw [hAC] at hc hc1
  rw [hAS] at has has1
  rw [hAB, hAC, hAS] at key
  have hx : W.cry ((AB % 18446744073709551616 + AC % 18446744073709551616) / 18446744073709551616) = (AB % 18446744073709551616 + AC % 18446744073709551616) / 18446744073709551616 := by unfold W.cry; omega
  have hq : (AB % 18446744073709551616 + AC % 18446744073709551616) % 18446744073709551616 = AS % 18446744073709551616 := by
    rcases ho with ho | ho <;> rw [ho] at key <;> omega
  refine ⟨(b + c) % 18446744073709551616, (b + c) / 18446744073709551616, AB / 18446744073709551616, AB % 18446744073709551616, AC / 18446744073709551616, AC % 18446744073709551616, AS % 18446744073709551616,
    (AB % 18446744073709551616 + AC % 18446744073709551616) / 18446744073709551616, (AB / 18446744073709551616 + AC / 18446744073709551616 + (AB % 18446744073709551616 + AC % 18446744073709551616) / 18446744073709551616) % 18446744073709551616,
    (AB / 18446744073709551616 + AC / 18446744073709551616 + (AB % 18446744073709551616 + AC % 18446744073709551616) / 18446744073709551616) / 18446744073709551616, AS / 18446744073709551616, hs0, hs1, by omega, ?_, ?_, ?_, ?_, ?_, ?_, ?_, ?_, ?_, ?_, ?_⟩
  · exact fun w => add0 b c b0 c0 w
  · intro w; have h := add0 c b c0 b0 w; rw [Int.add_comm c b] at h; exact h
  · intro w; have h := W.mul a b a0 a1 b0 b1 w; rw [hAB] at h; exact h
  · intro w; have h := W.mul b a b0 b1 a0 a1 w; rw [Int.mul_comm b a, hAB] at h; exact h
  · intro w; have h := W.mul a c a0 a1 c0 c1 w; rw [hAC] at h; exact h
  · intro w; have h := add0 (AB % 18446744073709551616) (AC % 18446744073709551616) (by omega) (by omega) w; rw [hq] at h; exact h
  · intro w
    have h := W.add (AB / 18446744073709551616) (AC / 18446744073709551616) ((AB % 18446744073709551616 + AC % 18446744073709551616) / 18446744073709551616) (by omega) (by omega) (by omega) (by omega) w
    rw [hx] at h; exact h
  · intro w; have h := W.mul a ((b + c) % 18446744073709551616) a0 a1 hs0 hs1 w; rw [hAS] at h; exact h
  · intro w; have h := W.mul a 0 a0 a1 (by decide) (by decide) w; simpa using h
  · intro w
    have h := W.mul a 1 a0 a1 (by decide) (by decide) w
    rw [Int.mul_one, Int.ediv_eq_zero_of_lt a0 (by omega), Int.emod_eq_of_lt a0 (by omega)] at h; exact h
  · rcases ho with ho | ho
    · rw [ho] at key
      exact .inl ⟨ho, by omega, by omega⟩
    · rw [ho] at key
      refine .inr ⟨ho, ?_⟩
      intro w
      have h := add0 (AS / 18446744073709551616) a (by omega) a0 w
      rw [show AS / 18446744073709551616 + a = AB / 18446744073709551616 + AC / 18446744073709551616 + (AB % 18446744073709551616 + AC % 18446744073709551616) / 18446744073709551616 by omega] at h
      exact h
set_option maxHeartbeats 1000000 in
set_option maxRecDepth 100000 in
theorem main (a b c s out h l k m q x P over p : Int) (H : Ring a b c s out h l k m q x P over p) (w : World) :
    Calls Try.prog 8 #[.int .u64 a, .int .u64 b, .int .u64 c] w fun e w' => e = .returned (.bool true) ∧ Grown w w' := by
  rcases H.fin with ⟨rfl, rfl, rfl⟩ | ⟨rfl, hf⟩
  · go_enter Try.func8, Try.ntmps8
    go_wp2_with fail
    refine (LW.awake _).mono ?_; rintro e w' ⟨rfl, _, rfl⟩
    go_wp2_with fail
    refine (H.add1 _).mono ?_; rintro e w' ⟨rfl, rfl⟩
    go_wp2_with fail
    refine (H.add2 _).mono ?_; rintro e w' ⟨rfl, rfl⟩
    go_wp2_with fail
    refine (H.mul1 _).mono ?_; rintro e w' ⟨rfl, rfl⟩
    go_wp2_with fail
    refine (H.mul2 _).mono ?_; rintro e w' ⟨rfl, rfl⟩
    go_wp2_with fail
    refine (H.mul3 _).mono ?_; rintro e w' ⟨rfl, rfl⟩
    go_wp2_with fail
    refine (H.add3 _).mono ?_; rintro e w' ⟨rfl, rfl⟩
    go_wp2_with fail
    refine (H.add4 _).mono ?_; rintro e w' ⟨rfl, rfl⟩
    go_wp2_with fail
    refine (H.mul4 _).mono ?_; rintro e w' ⟨rfl, rfl⟩
    go_wp2_with fail
    refine (H.mul5 _).mono ?_; rintro e w' ⟨rfl, rfl⟩
    go_wp2_with fail
    refine (H.mul6 _).mono ?_; rintro e w' ⟨rfl, rfl⟩
    go_wp2_with fail
    go_ret
    exact ⟨rfl, Grown.refl _⟩
  · have hF := Lib.hid hf
    clear hf
    go_enter Try.func8, Try.ntmps8
    go_wp2_with fail
    refine (LW.awake _).mono ?_; rintro e w' ⟨rfl, _, rfl⟩
    go_wp2_with fail
    refine (H.add1 _).mono ?_; rintro e w' ⟨rfl, rfl⟩
    go_wp2_with fail
    refine (H.add2 _).mono ?_; rintro e w' ⟨rfl, rfl⟩
    go_wp2_with fail
    refine (H.mul1 _).mono ?_; rintro e w' ⟨rfl, rfl⟩
    go_wp2_with fail
    refine (H.mul2 _).mono ?_; rintro e w' ⟨rfl, rfl⟩
    go_wp2_with fail
    refine (H.mul3 _).mono ?_; rintro e w' ⟨rfl, rfl⟩
    go_wp2_with fail
    refine (H.add3 _).mono ?_; rintro e w' ⟨rfl, rfl⟩
    go_wp2_with fail
    refine (H.add4 _).mono ?_; rintro e w' ⟨rfl, rfl⟩
    go_wp2_with fail
    refine (H.mul4 _).mono ?_; rintro e w' ⟨rfl, rfl⟩
    go_wp2_with fail
    refine (hF.out _).mono ?_; rintro e w' ⟨rfl, rfl⟩
    go_wp2_with fail
    refine (H.mul5 _).mono ?_; rintro e w' ⟨rfl, rfl⟩
    go_wp2_with fail
    refine (H.mul6 _).mono ?_; rintro e w' ⟨rfl, rfl⟩
    go_wp2_with fail
    go_ret
    exact ⟨rfl, Grown.refl _⟩

/-! ### STEP 1: THE WALK: the Go text returns true. 'Grown w w'': the world has at most new blocks (Derived/RowKit3.lean). Part the cases AHEAD of 'go_enter' where a test parts the walk; take each callee by a contract of your own. -/
theorem walk (a0 : Int) (a1 : Int) (a2 : Int) (w0 : (Lit.int .u64 a0).wf = true) (w1 : (Lit.int .u64 a1).wf = true) (w2 : (Lit.int .u64 a2).wf = true) (w : World) :
    Calls Try.prog 8 #[.int .u64 a0, .int .u64 a1, .int .u64 a2] w fun e w' => e = .returned (.bool true) ∧ Grown w w' := by
  obtain ⟨a00, a01⟩ := bounds_u64 w0
  obtain ⟨a10, a11⟩ := bounds_u64 w1
  obtain ⟨a20, a21⟩ := bounds_u64 w2
  obtain ⟨s, out, h, l, k, m, q, x, P, over, p, H⟩ := ring a0 a1 a2 a00 a01 a10 a11 a20 a21
  exact main a0 a1 a2 s out h l k m q x P over p H w

/-! ### THE ROW's STEP: WRITTEN OUT: LEAVE IT -/
set_option maxRecDepth 100000 in
theorem lifted (os : Os) (started : os.Started) (H : Type) (enc : TypeId × Value → H) :
    ReturnsInHanded {} Try.checked os 8 .any (Rows.wordRingSpec.pre6 enc Try.prog Try.f8 Rows.wordRingRow.domain false) (Rows.wordRingSpec.post enc Try.prog Try.f8 false true false false) := by
  refine returnsInHanded_of_change (C := Try.checked) own started (by kernel_rfl) Try.func8
    (ChangeSpec.witness6 (enc := enc) (C := Try.checked) false ⟨#[], #[.int .u64 0, .int .u64 0, .int .u64 0], []⟩ 8 (by kernel_rfl) (by kernel_rfl) (by kernel_rfl) (by kernel_rfl)) ?_
  intro W base args ds gs before hval0 hW hcnd _
  have hval : ∀ (j : Nat) t v, Try.f8.params[j]? = some t → args[j]? = some v → Value.okWide Try.prog W .any base t v := hval0
  have hW' := hW
  obtain ⟨p, q, hA0, hV, rfl, hfz, hnd⟩ := hW
  have hA : DataW.TrodAll enc Try.prog W 0 (fun _ => true) true Try.f8.params.toList args.toList ds p := hA0
  rw [Try.params8] at hA hval
  obtain ⟨v0, vs0, d0, ds0, p0, q0, hargs, rfl, rfl, h0, r0⟩ := trodAll_cons hA
  obtain ⟨v1, vs1, d1, ds1, p1, q1, rfl, rfl, rfl, h1, r1⟩ := trodAll_cons r0
  obtain ⟨v2, vs2, d2, ds2, p2, q2, rfl, rfl, rfl, h2, r2⟩ := trodAll_cons r1
  obtain ⟨rfl, rfl, rfl⟩ := trodAll_nil r2
  obtain rfl : args = #[v0, v1, v2] := by cases args; simp_all
  obtain ⟨rfl, rfl⟩ := trodVars_none hV
  obtain ⟨a0, rfl, rfl, rfl, w0⟩ := open_int Try.underlying22 (hval 0 22 v0 rfl rfl) h0
  obtain ⟨a1, rfl, rfl, rfl, w1⟩ := open_int Try.underlying22 (hval 1 22 v1 rfl rfl) h1
  obtain ⟨a2, rfl, rfl, rfl, w2⟩ := open_int Try.underlying22 (hval 2 22 v2 rfl rfl) h2
  clear hA0 hval0
  simp only [List.append_nil] at hW'
  refine (walk a0 a1 a2 w0 w1 w2 W).mono fun e W' ⟨he, hg⟩ => ?_
  subst he
  exact ⟨_, rfl, post_of_same (pa := []) (pv := []) hW' (fun _ _ _ => (trodAll_cons_mk (shut_bool Try.underlying4 _) trodAll_mk0)) (fun sp _ => (trodAll_cons_mk (shut_int Try.underlying22 w0) (trodAll_cons_mk (shut_int Try.underlying22 w1) (trodAll_cons_mk (shut_int Try.underlying22 w2) trodAll_mk0)))) (fun _ _ => rfl) rfl
    (hg.frame _) hg.2.1 (ok_one (by kernel_rfl) rfl (okWide_bool_mk Try.underlying4 _))⟩

theorem over : Rows.wordRingRow.holds Try.pinned (OpenSpec.ofChange Rows.wordRingSpec) :=
  OpenClaim.holds_of_wide 8 Try.f8 rfl rfl rfl rfl rfl rfl rfl ⟨rfl, rfl, rfl, rfl, rfl⟩ rfl rfl rfl rfl rfl (by kernel_rfl) Try.func8 (by kernel_rfl)
    (of_decide_eq_true (by kernel_rfl)) (by unfold Func.isWrapper; first | (rw [if_pos (by decide +kernel)]; kernel_rfl) | (rw [if_neg (by decide +kernel)]; exact ⟨rfl, rfl⟩))
    (fun os started H enc _ => lifted os started H enc)

/-- ████ THE STATEMENT ████ -/
theorem proved : Rows.WordRingSaid :=
  over
#print axioms proved
end Go.Proofs.Ythmncoonclcjcaa.wordRing
