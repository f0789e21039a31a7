/- The statement WordDivides: quotient times divisor and what is left are the two words; Div of q times d and r tells q and r. No condition. -/
import Derived.Test.YthmncoonclcjcaaRows
import Derived.WalkKit
import Derived.ProofKit
import Derived.OpenShut
import Derived.Test.YthmncoonclcjcaaWordAwake
import Derived.ShutString
namespace Go.Proofs.Ythmncoonclcjcaa.wordDivides
open Go.ChangeShapes Go.WideShapes Go.ChangeAt Go.RowKit
open Go.Proofs
open Go.ChangeMaps (open_string shut_string)
set_option linter.unusedVariables false      -- a walk need not use every 'w<i>' (that an integer argument fits its kind)

theorem own : ownKnob Try.prog.godebug = none := by kernel_rfl

theorem addx (a b c : Int) (a0 : 0 ≤ a) (b0 : 0 ≤ b) (c0 : 0 ≤ c) (c1 : c ≤ 1) (w : World) :
    Calls Try.prog 12 #[.int .u64 a, .int .u64 b, .int .u64 c] w fun e w' => e = .returned (.tuple #[.int .u64 ((a + b + c) % 18446744073709551616), .int .u64 ((a + b + c) / 18446744073709551616)]) ∧ w = w' := by
  have h := W.add a b c a0 b0 c0 (by omega) w
  rw [show W.cry c = c by unfold W.cry; omega] at h
  exact h
/-- X as a product and a rest: Mul, Add, Add give it back as two words -/
structure Back (q d r hi lo h l x : Int) : Prop where
  mul : ∀ w, Calls Try.prog 17 #[.int .u64 q, .int .u64 d] w fun e w' => e = .returned (.tuple #[.int .u64 h, .int .u64 l]) ∧ w = w'
  add : ∀ w, Calls Try.prog 12 #[.int .u64 l, .int .u64 r, .int .u64 0] w fun e w' => e = .returned (.tuple #[.int .u64 lo, .int .u64 x]) ∧ w = w'
  add' : ∀ w, Calls Try.prog 12 #[.int .u64 h, .int .u64 0, .int .u64 x] w fun e w' => e = .returned (.tuple #[.int .u64 hi, .int .u64 0]) ∧ w = w'
theorem back (q d r hi lo : Int) (q0 : 0 ≤ q) (q1 : q ≤ 18446744073709551615) (d0 : 0 ≤ d) (d1 : d ≤ 18446744073709551615) (r0 : 0 ≤ r) (r1 : r ≤ 18446744073709551615) (h0 : 0 ≤ hi) (h1 : hi ≤ 18446744073709551615) (l0 : 0 ≤ lo) (l1 : lo ≤ 18446744073709551615)
    (e : q * d + r = hi * 18446744073709551616 + lo) : ∃ h l x, Back q d r hi lo h l x := by
  have hm := Int.mul_nonneg q0 d0
  have hm1 := Int.mul_le_mul q1 d1 d0 (by decide)
  obtain ⟨p, hp⟩ : ∃ p, q * d = p := ⟨_, rfl⟩
  rw [hp] at hm hm1 e
  refine ⟨p / 18446744073709551616, p % 18446744073709551616, (p % 18446744073709551616 + r) / 18446744073709551616, ?_, ?_, ?_⟩
  · intro w; have h := W.mul q d q0 q1 d0 d1 w; rw [hp] at h; exact h
  · intro w
    have h := addx (p % 18446744073709551616) r 0 (by omega) r0 (by decide) (by decide) w
    rw [Int.add_zero, show (p % 18446744073709551616 + r) % 18446744073709551616 = lo by omega] at h; exact h
  · intro w
    have h := addx (p / 18446744073709551616) 0 ((p % 18446744073709551616 + r) / 18446744073709551616) (by omega) (by decide) (by omega) (by omega) w
    rw [show (p / 18446744073709551616 + 0 + (p % 18446744073709551616 + r) / 18446744073709551616) % 18446744073709551616 = hi by omega, show (p / 18446744073709551616 + 0 + (p % 18446744073709551616 + r) / 18446744073709551616) / 18446744073709551616 = 0 by omega] at h; exact h
/-- the second half: a as the quotient -/
theorem second (a b d : Int) (a0 : 0 ≤ a) (a1 : a ≤ 18446744073709551615) (b0 : 0 ≤ b) (b1 : b ≤ 18446744073709551615) (d0 : 0 < d) (d1 : d ≤ 18446744073709551615) :
    ∃ hi lo h l x, Back a d (b % d) hi lo h l x ∧ ∀ w, Calls Try.prog 19 #[.int .u64 hi, .int .u64 lo, .int .u64 d] w fun e w' => e = .returned (.tuple #[.int .u64 a, .int .u64 (b % d), .int .i64 0]) ∧ ∃ k, w.drewN k = w' := by
  have r0 := Int.emod_nonneg b (show d ≠ 0 by omega)
  have r1 := Int.emod_lt_of_pos b d0
  have hm := Int.mul_nonneg a0 (show 0 ≤ d by omega)
  have hm1 := Int.mul_le_mul_of_nonneg_right a1 (show 0 ≤ d by omega)
  have hx : (a * d + b % d) / 18446744073709551616 < d := by
    apply Int.ediv_lt_of_lt_mul (by decide); omega
  obtain ⟨h, l, x, H⟩ := back a d (b % d) ((a * d + b % d) / 18446744073709551616) ((a * d + b % d) % 18446744073709551616) a0 a1 (by omega) d1 r0 (by omega) (by omega) (by omega) (by omega) (by omega) (by omega)
  refine ⟨_, _, h, l, x, H, ?_⟩
  intro w
  have k := W.div_ok ((a * d + b % d) / 18446744073709551616) ((a * d + b % d) % 18446744073709551616) d (by omega) (by omega) (by omega) hx d1 w
  rw [show (a * d + b % d) / 18446744073709551616 * 18446744073709551616 + (a * d + b % d) % 18446744073709551616 = b % d + a * d by omega,
    Int.add_mul_ediv_right _ _ (show d ≠ 0 by omega), Int.ediv_eq_zero_of_lt r0 r1, Int.zero_add, Int.add_mul_emod_self_right, Int.emod_eq_of_lt r0 r1] at k
  exact k
set_option maxHeartbeats 1000000 in
set_option maxRecDepth 100000 in
theorem main (a b d : Int) (a0 : 0 ≤ a) (a1 : a ≤ 18446744073709551615) (b0 : 0 ≤ b) (b1 : b ≤ 18446744073709551615) (d0 : 0 < d) (d1 : d ≤ 18446744073709551615) (w : World) :
    Calls Try.prog 9 #[.int .u64 a, .int .u64 b, .int .u64 d] w fun e w' => e = .returned (.bool true) ∧ Grown w w' := by
  obtain ⟨hi, lo, h, l, x, ⟨m1, m2, m3⟩, m4⟩ := second a b d a0 a1 b0 b1 d0 d1
  have M1 := Lib.hid m1
  have M2 := Lib.hid m2
  have M3 := Lib.hid m3
  have M4 := Lib.hid m4
  clear m1 m2 m3 m4
  have hd : (d == 0) = false := beq_eq_false_iff_ne.2 (by omega)
  have r0 := Int.emod_nonneg b (show d ≠ 0 by omega)
  have r1 := Int.emod_lt_of_pos b d0
  by_cases hl : d ≤ a
  · go_enter Try.func9, Try.ntmps9
    go_wp2_with fail
    refine (LW.awake _).mono ?_; rintro e w' ⟨rfl, _, rfl⟩
    go_wp2_with fail
    refine (W.div_long _ _ _ d0 hl _).mono ?_; rintro e w' ⟨rfl, rfl⟩
    go_wp2_with fail
    refine (M1.out _).mono ?_; rintro e w' ⟨rfl, rfl⟩
    go_wp2_with fail
    refine (M2.out _).mono ?_; rintro e w' ⟨rfl, rfl⟩
    go_wp2_with fail
    refine (M3.out _).mono ?_; rintro e w' ⟨rfl, rfl⟩
    go_wp2_with fail
    refine (M4.out _).mono ?_; rintro e w' ⟨rfl, _, rfl⟩
    go_wp2_with fail
    go_ret
    exact ⟨rfl, Grown.refl _⟩
  · have hx0 := Int.ediv_nonneg (show 0 ≤ a * 18446744073709551616 + b by omega) (show 0 ≤ d by omega)
    have hx1 : (a * 18446744073709551616 + b) / d < 18446744073709551616 := Int.ediv_lt_of_lt_mul d0 (by omega)
    have hy0 := Int.emod_nonneg (a * 18446744073709551616 + b) (show d ≠ 0 by omega)
    have hy1 := Int.emod_lt_of_pos (a * 18446744073709551616 + b) d0
    have e := Int.mul_ediv_add_emod (a * 18446744073709551616 + b) d
    have D := fun w => W.div_ok a b d a0 b0 b1 (by omega) d1 w
    obtain ⟨q, hq⟩ : ∃ q, (a * 18446744073709551616 + b) / d = q := ⟨_, rfl⟩
    obtain ⟨r, hr⟩ : ∃ q, (a * 18446744073709551616 + b) % d = q := ⟨_, rfl⟩
    rw [hq] at hx0 hx1
    rw [hr] at hy0 hy1
    rw [hq, hr, Int.mul_comm] at e
    have D' : ∀ w, Calls Try.prog 19 #[.int .u64 a, .int .u64 b, .int .u64 d] w fun e w' => e = .returned (.tuple #[.int .u64 q, .int .u64 r, .int .i64 0]) ∧ ∃ k, w.drewN k = w' := by
      intro w; have := D w; rw [hq, hr] at this; exact this
    obtain ⟨h', l', x', ⟨n1, n2, n3⟩⟩ := back q d r a b hx0 (by omega) (by omega) d1 hy0 (by omega) a0 a1 b0 b1 e
    have N1 := Lib.hid n1
    have N2 := Lib.hid n2
    have N3 := Lib.hid n3
    have D'' := Lib.hid D'
    clear n1 n2 n3 hq hr e D D'
    go_enter Try.func9, Try.ntmps9
    go_wp2_with fail
    refine (LW.awake _).mono ?_; rintro e w' ⟨rfl, _, rfl⟩
    go_wp2_with fail
    refine (D''.out _).mono ?_; rintro e w' ⟨rfl, _, rfl⟩
    go_wp2_with fail
    refine (N1.out _).mono ?_; rintro e w' ⟨rfl, rfl⟩
    go_wp2_with fail
    refine (N2.out _).mono ?_; rintro e w' ⟨rfl, rfl⟩
    go_wp2_with fail
    refine (N3.out _).mono ?_; rintro e w' ⟨rfl, rfl⟩
    go_wp2_with fail
    refine (M1.out _).mono ?_; rintro e w' ⟨rfl, rfl⟩
    go_wp2_with fail
    refine (M2.out _).mono ?_; rintro e w' ⟨rfl, rfl⟩
    go_wp2_with fail
    refine (M3.out _).mono ?_; rintro e w' ⟨rfl, rfl⟩
    go_wp2_with fail
    refine (M4.out _).mono ?_; rintro e w' ⟨rfl, _, rfl⟩
    go_wp2_with fail
    go_ret
    exact ⟨rfl, Grown.refl _⟩

/-! ### STEP 1: THE WALK: the Go text returns true. 'Grown w w'': the world has at most new blocks (Derived/RowKit3.lean). Part the cases AHEAD of 'go_enter' where a test parts the walk; take each callee by a contract of your own. -/
theorem walk (a0 : Int) (a1 : Int) (a2 : Int) (w0 : (Lit.int .u64 a0).wf = true) (w1 : (Lit.int .u64 a1).wf = true) (w2 : (Lit.int .u64 a2).wf = true) (w : World) :
    Calls Try.prog 9 #[.int .u64 a0, .int .u64 a1, .int .u64 a2] w fun e w' => e = .returned (.bool true) ∧ Grown w w' := by
  obtain ⟨a00, a01⟩ := bounds_u64 w0
  obtain ⟨a10, a11⟩ := bounds_u64 w1
  obtain ⟨a20, a21⟩ := bounds_u64 w2
  rcases (show a2 = 0 ∨ 0 < a2 by omega) with rfl | hd
  · clear w0 w1 w2
    go_enter Try.func9, Try.ntmps9
    go_wp2_with fail
    refine (LW.awake _).mono ?_; rintro e w' ⟨rfl, _, rfl⟩
    go_wp2_with fail
    refine (W.div_zero _ _ _).mono ?_; rintro e w' ⟨rfl, rfl⟩
    go_wp2_with fail
    go_ret
    exact ⟨rfl, Grown.refl _⟩
  · exact main a0 a1 a2 a00 a01 a10 a11 hd a21 w

/-! ### THE ROW's STEP: WRITTEN OUT: LEAVE IT -/
set_option maxRecDepth 100000 in
theorem lifted (os : Os) (started : os.Started) (H : Type) (enc : TypeId × Value → H) :
    ReturnsInHanded {} Try.checked os 9 .any (Rows.wordDividesSpec.pre6 enc Try.prog Try.f9 Rows.wordDividesRow.domain false) (Rows.wordDividesSpec.post enc Try.prog Try.f9 false true false false) := by
  refine returnsInHanded_of_change (C := Try.checked) own started (by kernel_rfl) Try.func9
    (ChangeSpec.witness6 (enc := enc) (C := Try.checked) false ⟨#[], #[.int .u64 0, .int .u64 0, .int .u64 0], []⟩ 8 (by kernel_rfl) (by kernel_rfl) (by kernel_rfl) (by kernel_rfl)) ?_
  intro W base args ds gs before hval0 hW hcnd _
  have hval : ∀ (j : Nat) t v, Try.f9.params[j]? = some t → args[j]? = some v → Value.okWide Try.prog W .any base t v := hval0
  have hW' := hW
  obtain ⟨p, q, hA0, hV, rfl, hfz, hnd⟩ := hW
  have hA : DataW.TrodAll enc Try.prog W 0 (fun _ => true) true Try.f9.params.toList args.toList ds p := hA0
  rw [Try.params9] at hA hval
  obtain ⟨v0, vs0, d0, ds0, p0, q0, hargs, rfl, rfl, h0, r0⟩ := trodAll_cons hA
  obtain ⟨v1, vs1, d1, ds1, p1, q1, rfl, rfl, rfl, h1, r1⟩ := trodAll_cons r0
  obtain ⟨v2, vs2, d2, ds2, p2, q2, rfl, rfl, rfl, h2, r2⟩ := trodAll_cons r1
  obtain ⟨rfl, rfl, rfl⟩ := trodAll_nil r2
  obtain rfl : args = #[v0, v1, v2] := by cases args; simp_all
  obtain ⟨rfl, rfl⟩ := trodVars_none hV
  obtain ⟨a0, rfl, rfl, rfl, w0⟩ := open_int Try.underlying22 (hval 0 22 v0 rfl rfl) h0
  obtain ⟨a1, rfl, rfl, rfl, w1⟩ := open_int Try.underlying22 (hval 1 22 v1 rfl rfl) h1
  obtain ⟨a2, rfl, rfl, rfl, w2⟩ := open_int Try.underlying22 (hval 2 22 v2 rfl rfl) h2
  clear hA0 hval0
  simp only [List.append_nil] at hW'
  refine (walk a0 a1 a2 w0 w1 w2 W).mono fun e W' ⟨he, hg⟩ => ?_
  subst he
  exact ⟨_, rfl, post_of_same (pa := []) (pv := []) hW' (fun _ _ _ => (trodAll_cons_mk (shut_bool Try.underlying4 _) trodAll_mk0)) (fun sp _ => (trodAll_cons_mk (shut_int Try.underlying22 w0) (trodAll_cons_mk (shut_int Try.underlying22 w1) (trodAll_cons_mk (shut_int Try.underlying22 w2) trodAll_mk0)))) (fun _ _ => rfl) rfl
    (hg.frame _) hg.2.1 (ok_one (by kernel_rfl) rfl (okWide_bool_mk Try.underlying4 _))⟩

theorem over : Rows.wordDividesRow.holds Try.pinned (OpenSpec.ofChange Rows.wordDividesSpec) :=
  OpenClaim.holds_of_wide 9 Try.f9 rfl rfl rfl rfl rfl rfl rfl ⟨rfl, rfl, rfl, rfl, rfl⟩ rfl rfl rfl rfl rfl (by kernel_rfl) Try.func9 (by kernel_rfl)
    (of_decide_eq_true (by kernel_rfl)) (by unfold Func.isWrapper; first | (rw [if_pos (by decide +kernel)]; kernel_rfl) | (rw [if_neg (by decide +kernel)]; exact ⟨rfl, rfl⟩))
    (fun os started H enc _ => lifted os started H enc)

/-- ████ THE STATEMENT ████ -/
theorem proved : Rows.WordDividesSaid :=
  over
#print axioms proved
end Go.Proofs.Ythmncoonclcjcaa.wordDivides
