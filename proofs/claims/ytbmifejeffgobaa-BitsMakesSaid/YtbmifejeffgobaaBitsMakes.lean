/- The statement BitsMakes: the next one of any text, and any text without a part, with 0s for it, or with a 1 taken down, or why it is refused, are the document's. No condition. -/
import Derived.Test.YtbmifejeffgobaaRows
import Derived.WalkKit
import Derived.ProofKit
import Derived.OpenShut
import Derived.Test.YtbmifejeffgobaaBitsQ
import Derived.ShutString
import Derived.Below
namespace Go.Proofs.Ytbmifejeffgobaa.bitsMakes
open Go.ChangeShapes Go.WideShapes Go.ChangeAt Go.RowKit
open Go.Proofs
open Go.ChangeMaps (open_string shut_string)
set_option linter.unusedVariables false      -- a walk need not use every 'w<i>' (that an integer argument fits its kind)

theorem own : ownKnob Try.prog.godebug = none := by kernel_rfl

open Go.Proofs.BT
set_option linter.unusedSimpArgs false

/-! ### STEP 1: THE WALK: the Go text returns true. 'Grown w w'': the world has at most new blocks (Derived/RowKit3.lean). Part the cases AHEAD of 'go_enter' where a test parts the walk; take each callee by a contract of your own. -/
set_option maxHeartbeats 4000000 in
set_option maxRecDepth 100000 in
theorem walk (a0 : ByteArray) (a1 : Int) (a2 : Int) (w0 : a0.size ≤ maxLen) (w1 : (Lit.int .i64 a1).wf = true) (w2 : (Lit.int .i64 a2).wf = true) (w : World) :
    Calls Try.prog 4 #[.string a0, .int .i64 a1, .int .i64 a2] w fun e w' => e = .returned (.bool true) ∧ Below w.heap.size w w' := by
  unfold maxLen at w0
  have K : Below w.heap.size w w := Below.refl _ _
  by_cases hl : 3000 < a0.size
  ·
    go_enter Try.func4, Try.ntmps4
    go_wp2_with fail
    refine (awake _).mono ?_; rintro e w1 ⟨rfl, hb⟩
    replace K : Below w.heap.size w w1 := K.trans (hb.mono K.size)
    clear hb
    go_wp2_with fail
    go_ret
    exact ⟨rfl, K⟩
  have b1 : -9223372036854775808 ≤ a1 ∧ a1 ≤ 9223372036854775807 := by have := bounds_i64 w1; omega
  have b2 : -9223372036854775808 ≤ a2 ∧ a2 ≤ 9223372036854775807 := by have := bounds_i64 w2; omega
  obtain ⟨x, e1, N1, N2⟩ := next_both a0 (by omega)
  obtain ⟨y, e2, C1, C2⟩ := cut_both a0 a1 a2 (by omega) b1 b2
  obtain ⟨z, e3, L1, L2⟩ := clear_both a0 a1 a2 (by omega) b1 b2
  obtain ⟨u, e4, D1, D2⟩ := down_both a0 a1 (by omega) b1
  clear w1 w2 b1 b2
  have main : Calls Try.prog 4 #[.string a0, .int .i64 a1, .int .i64 a2] w fun e w' => e = .returned (.bool true) ∧ Below w.heap.size w w' := by
    go_enter Try.func4, Try.ntmps4
    go_wp2_with fail
    refine (N1 _).mono ?_; rintro e w1 ⟨rfl, hb⟩
    replace K : Below w.heap.size w w1 := K.trans (hb.mono K.size)
    clear hb
    go_wp2_with fail
    refine (N2 _).mono ?_; rintro e w2 ⟨rfl, hb⟩
    replace K : Below w.heap.size w w2 := K.trans (hb.mono K.size)
    clear hb
    go_wp2_with fail
    refine (C1 _).mono ?_; rintro e w3 ⟨rfl, hb⟩
    replace K : Below w.heap.size w w3 := K.trans (hb.mono K.size)
    clear hb
    go_wp2_with fail
    refine (C2 _).mono ?_; rintro e w4 ⟨rfl, hb⟩
    replace K : Below w.heap.size w w4 := K.trans (hb.mono K.size)
    clear hb
    go_wp2_with fail
    refine (L1 _).mono ?_; rintro e w5 ⟨rfl, hb⟩
    replace K : Below w.heap.size w w5 := K.trans (hb.mono K.size)
    clear hb
    go_wp2_with fail
    refine (L2 _).mono ?_; rintro e w6 ⟨rfl, hb⟩
    replace K : Below w.heap.size w w6 := K.trans (hb.mono K.size)
    clear hb
    go_wp2_with fail
    refine (D1 _).mono ?_; rintro e w7 ⟨rfl, hb⟩
    replace K : Below w.heap.size w w7 := K.trans (hb.mono K.size)
    clear hb
    go_wp2_with fail
    refine (D2 _).mono ?_; rintro e w8 ⟨rfl, hb⟩
    replace K : Below w.heap.size w w8 := K.trans (hb.mono K.size)
    clear hb
    go_wp2_with fail
    refine (awake _).mono ?_; rintro e w9 ⟨rfl, hb⟩
    replace K : Below w.heap.size w w9 := K.trans (hb.mono K.size)
    clear hb
    go_wp2_with fail
    go_ret
    exact ⟨rfl, K⟩
  exact main

/-! ### THE ROW's STEP: WRITTEN OUT: LEAVE IT -/
set_option maxRecDepth 100000 in
theorem lifted (os : Os) (started : os.Started) (H : Type) (enc : TypeId × Value → H) :
    ReturnsInHanded {} Try.checked os 4 .any (Rows.bitsMakesSpec.pre6 enc Try.prog Try.f4 Rows.bitsMakesRow.domain false) (Rows.bitsMakesSpec.post enc Try.prog Try.f4 false true false false) := by
  refine returnsInHanded_of_change (C := Try.checked) own started (by kernel_rfl) Try.func4
    (ChangeSpec.witness6 (enc := enc) (C := Try.checked) false ⟨#[], #[.string ByteArray.empty, .int .i64 0, .int .i64 0], []⟩ 8 (by kernel_rfl) (by kernel_rfl) (by kernel_rfl) (by kernel_rfl)) ?_
  intro W base args ds gs before hval0 hW hcnd _
  have hval : ∀ (j : Nat) t v, Try.f4.params[j]? = some t → args[j]? = some v → Value.okWide Try.prog W .any base t v := hval0
  have hW' := hW
  obtain ⟨p, q, hA0, hV, rfl, hfz, hnd⟩ := hW
  have hA : DataW.TrodAll enc Try.prog W 0 (fun _ => true) true Try.f4.params.toList args.toList ds p := hA0
  rw [Try.params4] at hA hval
  obtain ⟨v0, vs0, d0, ds0, p0, q0, hargs, rfl, rfl, h0, r0⟩ := trodAll_cons hA
  obtain ⟨v1, vs1, d1, ds1, p1, q1, rfl, rfl, rfl, h1, r1⟩ := trodAll_cons r0
  obtain ⟨v2, vs2, d2, ds2, p2, q2, rfl, rfl, rfl, h2, r2⟩ := trodAll_cons r1
  obtain ⟨rfl, rfl, rfl⟩ := trodAll_nil r2
  obtain rfl : args = #[v0, v1, v2] := by cases args; simp_all
  obtain ⟨rfl, rfl⟩ := trodVars_none hV
  obtain ⟨a0, rfl, rfl, rfl, w0⟩ := open_string Try.underlying9 (hval 0 9 v0 rfl rfl) h0
  obtain ⟨a1, rfl, rfl, rfl, w1⟩ := open_int Try.underlying3 (hval 1 3 v1 rfl rfl) h1
  obtain ⟨a2, rfl, rfl, rfl, w2⟩ := open_int Try.underlying3 (hval 2 3 v2 rfl rfl) h2
  clear hA0 hval0
  simp only [List.append_nil] at hW'
  refine (walk a0 a1 a2 w0 w1 w2 W).mono fun e W' ⟨he, hg⟩ => ?_
  subst he
  exact ⟨_, rfl, _, _, _, [], [], [], hW', (trodAll_cons_mk (shut_bool Try.underlying4 _) trodAll_mk0), (trodAll_cons_mk (shut_string Try.underlying9 w0) (trodAll_cons_mk (shut_int Try.underlying3 w1) (trodAll_cons_mk (shut_int Try.underlying3 w2) trodAll_mk0))), rfl, hg.frame _, fun h => by cases h⟩

theorem over : Rows.bitsMakesRow.holds Try.pinned (OpenSpec.ofChange Rows.bitsMakesSpec) :=
  OpenClaim.holds_of_wide 4 Try.f4 rfl rfl rfl rfl rfl rfl rfl ⟨rfl, rfl, rfl, rfl, rfl⟩ rfl rfl rfl rfl rfl (by kernel_rfl) Try.func4 (by kernel_rfl)
    (of_decide_eq_true (by kernel_rfl)) (by unfold Func.isWrapper; first | (rw [if_pos (by decide +kernel)]; kernel_rfl) | (rw [if_neg (by decide +kernel)]; exact ⟨rfl, rfl⟩))
    (fun os started H enc _ => lifted os started H enc)

/-- ████ THE STATEMENT ████ -/
theorem proved : Rows.BitsMakesSaid :=
  over
#print axioms proved
end Go.Proofs.Ytbmifejeffgobaa.bitsMakes
