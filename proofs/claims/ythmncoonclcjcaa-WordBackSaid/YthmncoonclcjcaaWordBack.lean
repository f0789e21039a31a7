/- The statement WordBack: what word.Add added, word.Sub takes away again, with its carry, for any three words, and the examples hold. No condition. -/
import Derived.Test.YthmncoonclcjcaaRows
import Derived.WalkKit
import Derived.ProofKit
import Derived.OpenShut
import Derived.Test.YthmncoonclcjcaaWordAwake
import Derived.ShutString
namespace Go.Proofs.Ythmncoonclcjcaa.wordBack
open Go.ChangeShapes Go.WideShapes Go.ChangeAt Go.RowKit
open Go.Proofs
open Go.ChangeMaps (open_string shut_string)
set_option linter.unusedVariables false      -- a walk need not use every 'w<i>' (that an integer argument fits its kind)

theorem own : ownKnob Try.prog.godebug = none := by kernel_rfl

theorem s1 (a b k : Int) (a0 : 0 ≤ a) (a1 : a ≤ 18446744073709551615) (b0 : 0 ≤ b) (b1 : b ≤ 18446744073709551615) (k0 : 0 ≤ k) (k1 : k ≤ 1) :
    ((a + b + k) % 18446744073709551616 - b - k) % 18446744073709551616 = a ∧ W.bor ((a + b + k) % 18446744073709551616) (b + k) = (a + b + k) / 18446744073709551616 ∧ (a + b + k) / 18446744073709551616 ≤ 1 := by
  unfold W.bor
  refine ⟨by omega, ?_, by omega⟩
  split <;> omega
theorem s2 (a b k : Int) (a0 : 0 ≤ a) (a1 : a ≤ 18446744073709551615) (b0 : 0 ≤ b) (b1 : b ≤ 18446744073709551615) (k0 : 0 ≤ k) (k1 : k ≤ 1) :
    ((a - b - k) % 18446744073709551616 + b + k) % 18446744073709551616 = a ∧ ((a - b - k) % 18446744073709551616 + b + k) / 18446744073709551616 = W.bor a (b + k) := by
  unfold W.bor
  refine ⟨by omega, ?_⟩
  split <;> omega
/-- the sum, the difference and their carries under names of their own -/
structure Four (a b c s o x l : Int) : Prop where
  s0 : 0 ≤ s
  s1 : s ≤ 18446744073709551615
  o0 : 0 ≤ o
  o1 : o ≤ 1
  x0 : 0 ≤ x
  x1 : x ≤ 18446744073709551615
  add : ∀ w, Calls Try.prog 12 #[.int .u64 a, .int .u64 b, .int .u64 c] w fun e w' => e = .returned (.tuple #[.int .u64 s, .int .u64 o]) ∧ w = w'
  sub : ∀ w, Calls Try.prog 14 #[.int .u64 s, .int .u64 b, .int .u64 c] w fun e w' => e = .returned (.tuple #[.int .u64 a, .int .u64 o]) ∧ w = w'
  sub' : ∀ w, Calls Try.prog 14 #[.int .u64 a, .int .u64 b, .int .u64 c] w fun e w' => e = .returned (.tuple #[.int .u64 x, .int .u64 l]) ∧ w = w'
  add' : ∀ w, Calls Try.prog 12 #[.int .u64 x, .int .u64 b, .int .u64 c] w fun e w' => e = .returned (.tuple #[.int .u64 a, .int .u64 l]) ∧ w = w'
theorem four (a b c l : Int) (a0 : 0 ≤ a) (a1 : a ≤ 18446744073709551615) (b0 : 0 ≤ b) (b1 : b ≤ 18446744073709551615) (c0 : 0 ≤ c) (c1 : c ≤ 18446744073709551615) (hl : W.bor a (b + W.cry c) = l) : ∃ s o x, Four a b c s o x l := by
  have ⟨k0, k1⟩ := W.cry_le c c0
  have ⟨e1, e2, e3⟩ := s1 a b (W.cry c) a0 a1 b0 b1 k0 k1
  have ⟨e4, e5⟩ := s2 a b (W.cry c) a0 a1 b0 b1 k0 k1
  rw [hl] at e5
  refine ⟨(a + b + W.cry c) % 18446744073709551616, (a + b + W.cry c) / 18446744073709551616, (a - b - W.cry c) % 18446744073709551616, by omega, by omega, by omega, e3, by omega, by omega, ?_, ?_, ?_, ?_⟩
  · intro w; exact W.add a b c a0 b0 c0 c1 w
  · intro w
    have h := W.sub ((a + b + W.cry c) % 18446744073709551616) b c (by omega) b0 b1 c0 c1 w
    rw [e1, e2] at h; exact h
  · intro w
    have h := W.sub a b c a0 b0 b1 c0 c1 w
    rw [hl] at h; exact h
  · intro w
    have h := W.add ((a - b - W.cry c) % 18446744073709551616) b c (by omega) b0 c0 c1 w
    rw [e4, e5] at h; exact h
set_option maxHeartbeats 1000000 in
theorem back (a b c s o x l : Int) (H : Four a b c s o x l) (a0 : 0 ≤ a) (a1 : a ≤ 18446744073709551615) (b0 : 0 ≤ b) (b1 : b ≤ 18446744073709551615) (c0 : 0 ≤ c)
    (hl : (l = 1 ∧ (a < b ∨ a = b ∧ 0 < c)) ∨ (l = 0 ∧ (b < a ∨ a = b ∧ c = 0))) (w : World) :
    Calls Try.prog 7 #[.int .u64 a, .int .u64 b, .int .u64 c] w fun e w' => e = .returned (.bool true) ∧ Grown w w' := by
  obtain ⟨s0, s1, o0, o1, x0, x1, h1, h2, h3, h4⟩ := H
  have H1 := Lib.hid h1
  have H2 := Lib.hid h2
  have H3 := Lib.hid h3
  have H4 := Lib.hid h4
  clear h1 h2 h3 h4
  rcases hl with ⟨rfl, hl | ⟨rfl, hl⟩⟩ | ⟨rfl, hl | ⟨rfl, rfl⟩⟩
  rotate_left 2
  have hd : decide (a < b) = false := by simp; omega
  have hd' : (a == b) = false := beq_eq_false_iff_ne.2 (by omega)
  all_goals
    go_enter Try.func7, Try.ntmps7
    go_wp2_with fail
    refine (LW.awake _).mono ?_; rintro e w' ⟨rfl, k, rfl⟩
    go_wp2_with fail
    refine (H1.out _).mono ?_; rintro e w' ⟨rfl, rfl⟩
    go_wp2_with fail
    refine (H2.out _).mono ?_; rintro e w' ⟨rfl, rfl⟩
    go_wp2_with fail
    refine (H3.out _).mono ?_; rintro e w' ⟨rfl, rfl⟩
    go_wp2_with fail
    refine (H4.out _).mono ?_; rintro e w' ⟨rfl, rfl⟩
    go_wp2_with fail
    go_ret
    exact ⟨rfl, Grown.refl _⟩

/-! ### STEP 1: THE WALK: the Go text returns true. 'Grown w w'': the world has at most new blocks (Derived/RowKit3.lean). Part the cases AHEAD of 'go_enter' where a test parts the walk; take each callee by a contract of your own. -/
theorem walk (a0 : Int) (a1 : Int) (a2 : Int) (w0 : (Lit.int .u64 a0).wf = true) (w1 : (Lit.int .u64 a1).wf = true) (w2 : (Lit.int .u64 a2).wf = true) (w : World) :
    Calls Try.prog 7 #[.int .u64 a0, .int .u64 a1, .int .u64 a2] w fun e w' => e = .returned (.bool true) ∧ Grown w w' := by
  obtain ⟨a00, a01⟩ := bounds_u64 w0
  obtain ⟨a10, a11⟩ := bounds_u64 w1
  obtain ⟨a20, a21⟩ := bounds_u64 w2
  have hk : W.cry a2 = if 0 < a2 then 1 else 0 := by unfold W.cry; split <;> omega
  obtain ⟨l, hl, hc⟩ : ∃ l, W.bor a0 (a1 + W.cry a2) = l ∧ ((l = 1 ∧ (a0 < a1 ∨ a0 = a1 ∧ 0 < a2)) ∨ (l = 0 ∧ (a1 < a0 ∨ a0 = a1 ∧ a2 = 0))) := by
    refine ⟨_, rfl, ?_⟩
    rw [hk]; unfold W.bor
    split <;> split <;> omega
  obtain ⟨s, o, x, H⟩ := four a0 a1 a2 l a00 a01 a10 a11 a20 a21 hl
  exact back a0 a1 a2 s o x l H a00 a01 a10 a11 a20 hc w

/-! ### THE ROW's STEP: WRITTEN OUT: LEAVE IT -/
set_option maxRecDepth 100000 in
theorem lifted (os : Os) (started : os.Started) (H : Type) (enc : TypeId × Value → H) :
    ReturnsInHanded {} Try.checked os 7 .any (Rows.wordBackSpec.pre6 enc Try.prog Try.f7 Rows.wordBackRow.domain false) (Rows.wordBackSpec.post enc Try.prog Try.f7 false true false false) := by
  refine returnsInHanded_of_change (C := Try.checked) own started (by kernel_rfl) Try.func7
    (ChangeSpec.witness6 (enc := enc) (C := Try.checked) false ⟨#[], #[.int .u64 0, .int .u64 0, .int .u64 0], []⟩ 8 (by kernel_rfl) (by kernel_rfl) (by kernel_rfl) (by kernel_rfl)) ?_
  intro W base args ds gs before hval0 hW hcnd _
  have hval : ∀ (j : Nat) t v, Try.f7.params[j]? = some t → args[j]? = some v → Value.okWide Try.prog W .any base t v := hval0
  have hW' := hW
  obtain ⟨p, q, hA0, hV, rfl, hfz, hnd⟩ := hW
  have hA : DataW.TrodAll enc Try.prog W 0 (fun _ => true) true Try.f7.params.toList args.toList ds p := hA0
  rw [Try.params7] at hA hval
  obtain ⟨v0, vs0, d0, ds0, p0, q0, hargs, rfl, rfl, h0, r0⟩ := trodAll_cons hA
  obtain ⟨v1, vs1, d1, ds1, p1, q1, rfl, rfl, rfl, h1, r1⟩ := trodAll_cons r0
  obtain ⟨v2, vs2, d2, ds2, p2, q2, rfl, rfl, rfl, h2, r2⟩ := trodAll_cons r1
  obtain ⟨rfl, rfl, rfl⟩ := trodAll_nil r2
  obtain rfl : args = #[v0, v1, v2] := by cases args; simp_all
  obtain ⟨rfl, rfl⟩ := trodVars_none hV
  obtain ⟨a0, rfl, rfl, rfl, w0⟩ := open_int Try.underlying22 (hval 0 22 v0 rfl rfl) h0
  obtain ⟨a1, rfl, rfl, rfl, w1⟩ := open_int Try.underlying22 (hval 1 22 v1 rfl rfl) h1
  obtain ⟨a2, rfl, rfl, rfl, w2⟩ := open_int Try.underlying22 (hval 2 22 v2 rfl rfl) h2
  clear hA0 hval0
  simp only [List.append_nil] at hW'
  refine (walk a0 a1 a2 w0 w1 w2 W).mono fun e W' ⟨he, hg⟩ => ?_
  subst he
  exact ⟨_, rfl, post_of_same (pa := []) (pv := []) hW' (fun _ _ _ => (trodAll_cons_mk (shut_bool Try.underlying4 _) trodAll_mk0)) (fun sp _ => (trodAll_cons_mk (shut_int Try.underlying22 w0) (trodAll_cons_mk (shut_int Try.underlying22 w1) (trodAll_cons_mk (shut_int Try.underlying22 w2) trodAll_mk0)))) (fun _ _ => rfl) rfl
    (hg.frame _) hg.2.1 (ok_one (by kernel_rfl) rfl (okWide_bool_mk Try.underlying4 _))⟩

theorem over : Rows.wordBackRow.holds Try.pinned (OpenSpec.ofChange Rows.wordBackSpec) :=
  OpenClaim.holds_of_wide 7 Try.f7 rfl rfl rfl rfl rfl rfl rfl ⟨rfl, rfl, rfl, rfl, rfl⟩ rfl rfl rfl rfl rfl (by kernel_rfl) Try.func7 (by kernel_rfl)
    (of_decide_eq_true (by kernel_rfl)) (by unfold Func.isWrapper; first | (rw [if_pos (by decide +kernel)]; kernel_rfl) | (rw [if_neg (by decide +kernel)]; exact ⟨rfl, rfl⟩))
    (fun os started H enc _ => lifted os started H enc)

/-- ████ THE STATEMENT ████ -/
theorem proved : Rows.WordBackSaid :=
  over
#print axioms proved
end Go.Proofs.Ythmncoonclcjcaa.wordBack
