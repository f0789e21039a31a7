/- The statement WordLens: a word is below 2 to the power of its length, and not below that of one less; a greater word is not shorter. No condition. -/
import Derived.Test.YthmncoonclcjcaaRows
import Derived.WalkKit
import Derived.ProofKit
import Derived.OpenShut
import Derived.Test.YthmncoonclcjcaaWordAwake
import Derived.ShutString
namespace Go.Proofs.Ythmncoonclcjcaa.wordLens
open Go.ChangeShapes Go.WideShapes Go.ChangeAt Go.RowKit
open Go.Proofs
open Go.ChangeMaps (open_string shut_string)
set_option linter.unusedVariables false      -- a walk need not use every 'w<i>' (that an integer argument fits its kind)

theorem own : ownKnob Try.prog.godebug = none := by kernel_rfl

theorem fits (a : Nat) : a / 2 ^ bitLen a = 0 := Nat.div_eq_of_lt (bitLen_spec a).1
theorem topmost (a : Nat) (h : a ≠ 0) : a / 2 ^ (bitLen a - 1) = 1 := by
  obtain ⟨h1, h2⟩ := bitLen_spec a
  have h2 := h2 h
  have hb : bitLen a ≠ 0 := by intro e; rw [e] at h1; simp at h1; omega
  have e : 2 ^ bitLen a = 2 ^ (bitLen a - 1) * 2 := by rw [← Nat.pow_succ]; congr 1; omega
  rw [e] at h1
  have p := Nat.two_pow_pos (bitLen a - 1)
  exact Nat.div_eq_of_lt_le (by omega) (by omega)
theorem mono (a b : Nat) (h : a ≤ b) : bitLen a ≤ bitLen b := by
  by_cases ha : a = 0
  · subst ha; simp [bitLen]
  · have h1 := (bitLen_spec a).2 ha
    have h2 := (bitLen_spec b).1
    have : 2 ^ (bitLen a - 1) < 2 ^ bitLen b := by omega
    have := (Nat.pow_lt_pow_iff_right (by decide : 1 < 2)).1 this
    omega
theorem len0 (a : Nat) : bitLen a = 0 ↔ a = 0 := by
  constructor
  · intro e; have := (bitLen_spec a).1; rw [e] at this; simpa using this
  · rintro rfl; rfl
theorem shrI (a : Nat) (n r : Nat) (h : a / 2 ^ n = r) (hr : r < 18446744073709551616) : (0 * 18446744073709551616 + (a : Int)) / 2 ^ n % 18446744073709551616 = (r : Int) := by
  rw [Int.zero_mul, Int.zero_add, W.pow_cast, ← Int.natCast_ediv, h]; omega

/-! ### STEP 1: THE WALK: the Go text returns true. 'Grown w w'': the world has at most new blocks (Derived/RowKit3.lean). Part the cases AHEAD of 'go_enter' where a test parts the walk; take each callee by a contract of your own. -/
theorem walk (a0 : Int) (a1 : Int) (w0 : (Lit.int .u64 a0).wf = true) (w1 : (Lit.int .u64 a1).wf = true) (w : World) :
    Calls Try.prog 10 #[.int .u64 a0, .int .u64 a1] w fun e w' => e = .returned (.bool true) ∧ Grown w w' := by
  obtain ⟨a00, a01⟩ := bounds_u64 w0
  obtain ⟨a10, a11⟩ := bounds_u64 w1
  clear w0 w1
  obtain ⟨a, rfl⟩ := Int.eq_ofNat_of_zero_le a00
  obtain ⟨b, rfl⟩ := Int.eq_ofNat_of_zero_le a10
  have hl := W.bitLen_64 a (by omega)
  have c1 := fun w => W.len (a : Int) a00 a01 w
  have c2 := fun w => W.len (b : Int) a10 a11 w
  have c3 := fun w => W.shr_ok 0 (a : Int) (bitLen a) (by decide) (by decide) a00 a01 hl w
  rw [shrI a _ 0 (fits a) (by decide)] at c3
  have m := mono a b
  have hz := len0 a
  have hlb := W.bitLen_64 b (by omega)
  have tp := topmost a
  rw [Int.toNat_natCast] at c1 c2
  by_cases ha : a = 0
  · subst ha
    rw [show bitLen 0 = 0 from rfl] at c1 c3
    have C1 := Lib.hid c1
    have C2 := Lib.hid c2
    have C3 := Lib.hid c3
    clear c1 c2 c3 m hz hl tp
    by_cases hab : b < 0
    · omega
    go_enter Try.func10, Try.ntmps10
    go_wp2_with fail
    refine (LW.awake _).mono ?_; rintro e w' ⟨rfl, _, rfl⟩
    go_wp2_with fail
    refine (C1.out _).mono ?_; rintro e w' ⟨rfl, rfl⟩
    go_wp2_with fail
    refine (C3.out _).mono ?_; rintro e w' ⟨rfl, _, rfl⟩
    go_wp2_with fail
    refine (C2.out _).mono ?_; rintro e w' ⟨rfl, rfl⟩
    go_wp2_with fail
    go_ret
    exact ⟨rfl, Grown.refl _⟩
  · have c4 := fun w => W.shr_ok 0 (a : Int) (bitLen a - 1) (by decide) (by decide) a00 a01 (by omega) w
    rw [shrI a _ 1 (tp ha) (by decide)] at c4
    have hp : 1 ≤ bitLen a := by omega
    obtain ⟨n, hn⟩ : ∃ n, bitLen a = n := ⟨_, rfl⟩
    obtain ⟨k, hk⟩ : ∃ n, bitLen b = n := ⟨_, rfl⟩
    rw [hn] at c1 c3 c4 hp m hl
    rw [hk] at c2 m hlb
    rw [show ((n - 1 : Nat) : Int) = (n : Int) - 1 by omega] at c4
    have C1 := Lib.hid c1
    have C2 := Lib.hid c2
    have C3 := Lib.hid c3
    have C4 := Lib.hid c4
    clear c1 c2 c3 c4 hz tp hn hk
    have ha' : ((a : Int) == 0) = false := beq_eq_false_iff_ne.2 (by omega)
    have hn' : ((n : Int) == 0) = false := beq_eq_false_iff_ne.2 (by omega)
    by_cases hab : b < a
    · go_enter Try.func10, Try.ntmps10
      go_wp2_with fail
      refine (LW.awake _).mono ?_; rintro e w' ⟨rfl, _, rfl⟩
      go_wp2_with fail
      refine (C1.out _).mono ?_; rintro e w' ⟨rfl, rfl⟩
      go_wp2_with fail
      refine (C3.out _).mono ?_; rintro e w' ⟨rfl, _, rfl⟩
      go_wp2_with fail
      refine (C4.out _).mono ?_; rintro e w' ⟨rfl, _, rfl⟩
      go_wp2_with fail
      go_ret
      exact ⟨rfl, Grown.refl _⟩
    · have m := m (by omega)
      go_enter Try.func10, Try.ntmps10
      go_wp2_with fail
      refine (LW.awake _).mono ?_; rintro e w' ⟨rfl, _, rfl⟩
      go_wp2_with fail
      refine (C1.out _).mono ?_; rintro e w' ⟨rfl, rfl⟩
      go_wp2_with fail
      refine (C3.out _).mono ?_; rintro e w' ⟨rfl, _, rfl⟩
      go_wp2_with fail
      refine (C4.out _).mono ?_; rintro e w' ⟨rfl, _, rfl⟩
      go_wp2_with fail
      refine (C2.out _).mono ?_; rintro e w' ⟨rfl, rfl⟩
      go_wp2_with fail
      go_ret
      exact ⟨rfl, Grown.refl _⟩

/-! ### THE ROW's STEP: WRITTEN OUT: LEAVE IT -/
set_option maxRecDepth 100000 in
theorem lifted (os : Os) (started : os.Started) (H : Type) (enc : TypeId × Value → H) :
    ReturnsInHanded {} Try.checked os 10 .any (Rows.wordLensSpec.pre6 enc Try.prog Try.f10 Rows.wordLensRow.domain false) (Rows.wordLensSpec.post enc Try.prog Try.f10 false true false false) := by
  refine returnsInHanded_of_change (C := Try.checked) own started (by kernel_rfl) Try.func10
    (ChangeSpec.witness6 (enc := enc) (C := Try.checked) false ⟨#[], #[.int .u64 0, .int .u64 0], []⟩ 8 (by kernel_rfl) (by kernel_rfl) (by kernel_rfl) (by kernel_rfl)) ?_
  intro W base args ds gs before hval0 hW hcnd _
  have hval : ∀ (j : Nat) t v, Try.f10.params[j]? = some t → args[j]? = some v → Value.okWide Try.prog W .any base t v := hval0
  have hW' := hW
  obtain ⟨p, q, hA0, hV, rfl, hfz, hnd⟩ := hW
  have hA : DataW.TrodAll enc Try.prog W 0 (fun _ => true) true Try.f10.params.toList args.toList ds p := hA0
  rw [Try.params10] at hA hval
  obtain ⟨v0, vs0, d0, ds0, p0, q0, hargs, rfl, rfl, h0, r0⟩ := trodAll_cons hA
  obtain ⟨v1, vs1, d1, ds1, p1, q1, rfl, rfl, rfl, h1, r1⟩ := trodAll_cons r0
  obtain ⟨rfl, rfl, rfl⟩ := trodAll_nil r1
  obtain rfl : args = #[v0, v1] := by cases args; simp_all
  obtain ⟨rfl, rfl⟩ := trodVars_none hV
  obtain ⟨a0, rfl, rfl, rfl, w0⟩ := open_int Try.underlying22 (hval 0 22 v0 rfl rfl) h0
  obtain ⟨a1, rfl, rfl, rfl, w1⟩ := open_int Try.underlying22 (hval 1 22 v1 rfl rfl) h1
  clear hA0 hval0
  simp only [List.append_nil] at hW'
  refine (walk a0 a1 w0 w1 W).mono fun e W' ⟨he, hg⟩ => ?_
  subst he
  exact ⟨_, rfl, post_of_same (pa := []) (pv := []) hW' (fun _ _ _ => (trodAll_cons_mk (shut_bool Try.underlying4 _) trodAll_mk0)) (fun sp _ => (trodAll_cons_mk (shut_int Try.underlying22 w0) (trodAll_cons_mk (shut_int Try.underlying22 w1) trodAll_mk0))) (fun _ _ => rfl) rfl
    (hg.frame _) hg.2.1 (ok_one (by kernel_rfl) rfl (okWide_bool_mk Try.underlying4 _))⟩

theorem over : Rows.wordLensRow.holds Try.pinned (OpenSpec.ofChange Rows.wordLensSpec) :=
  OpenClaim.holds_of_wide 10 Try.f10 rfl rfl rfl rfl rfl rfl rfl ⟨rfl, rfl, rfl, rfl, rfl⟩ rfl rfl rfl rfl rfl (by kernel_rfl) Try.func10 (by kernel_rfl)
    (of_decide_eq_true (by kernel_rfl)) (by unfold Func.isWrapper; first | (rw [if_pos (by decide +kernel)]; kernel_rfl) | (rw [if_neg (by decide +kernel)]; exact ⟨rfl, rfl⟩))
    (fun os started H enc _ => lifted os started H enc)

/-- ████ THE STATEMENT ████ -/
theorem proved : Rows.WordLensSaid :=
  over
#print axioms proved
end Go.Proofs.Ythmncoonclcjcaa.wordLens
