/- The statement BitsTells: whether any text is a string of bits, how any two stand to each other, the number of any text, any number as bits, or why there is none, are the document's. No condition. -/
import Derived.Test.YtbmifejeffgobaaRows
import Derived.WalkKit
import Derived.ProofKit
import Derived.OpenShut
import Derived.Test.YtbmifejeffgobaaBitsQ
import Derived.ShutString
import Derived.Below
namespace Go.Proofs.Ytbmifejeffgobaa.bitsTells
open Go.ChangeShapes Go.WideShapes Go.ChangeAt Go.RowKit
open Go.Proofs
open Go.ChangeMaps (open_string shut_string)
set_option linter.unusedVariables false      -- a walk need not use every 'w<i>' (that an integer argument fits its kind)

theorem own : ownKnob Try.prog.godebug = none := by kernel_rfl

open Go.Proofs.BT
set_option linter.unusedSimpArgs false

/-! ### STEP 1: THE WALK: the Go text returns true. 'Grown w w'': the world has at most new blocks (Derived/RowKit3.lean). Part the cases AHEAD of 'go_enter' where a test parts the walk; take each callee by a contract of your own. -/
set_option maxHeartbeats 2000000 in
set_option maxRecDepth 100000 in
theorem walk (a0 : ByteArray) (a1 : ByteArray) (a2 : Int) (a3 : Int) (w0 : a0.size ≤ maxLen) (w1 : a1.size ≤ maxLen) (w2 : (Lit.int .u64 a2).wf = true) (w3 : (Lit.int .i64 a3).wf = true) (w : World) :
    Calls Try.prog 3 #[.string a0, .string a1, .int .u64 a2, .int .i64 a3] w fun e w' => e = .returned (.bool true) ∧ Below w.heap.size w w' := by
  unfold maxLen at w0
  unfold maxLen at w1
  have K : Below w.heap.size w w := Below.refl _ _
  by_cases hl : 3000 < a0.size
  ·
    go_enter Try.func3, Try.ntmps3
    go_wp2_with fail
    refine (awake _).mono ?_; rintro e w1 ⟨rfl, hb⟩
    replace K : Below w.heap.size w w1 := K.trans (hb.mono K.size)
    clear hb
    go_wp2_with fail
    go_ret
    exact ⟨rfl, K⟩
  by_cases hl2 : 3000 < a1.size
  ·
    go_enter Try.func3, Try.ntmps3
    go_wp2_with fail
    refine (awake _).mono ?_; rintro e w1 ⟨rfl, hb⟩
    replace K : Below w.heap.size w w1 := K.trans (hb.mono K.size)
    clear hb
    go_wp2_with fail
    go_ret
    exact ⟨rfl, K⟩
  obtain ⟨n, rfl⟩ : ∃ n : Nat, a2 = n := ⟨a2.toNat, by have := bounds_u64 w2; omega⟩
  have hn : n < 18446744073709551616 := by have := bounds_u64 w2; omega
  clear w2 w3
  obtain ⟨x, e1, N1, N2⟩ := num_both a0 (by omega)
  obtain ⟨z, e2, O1, O2⟩ := of_both n a3 hn
  obtain ⟨I1, I2⟩ := is_both a0 (by omega)
  obtain ⟨C1, C2⟩ := cmp_both a0 a1 (by omega) (by omega)
  generalize isB a0 = b0 at I1 I2
  generalize cmpB a0 a1 = c0 at C1 C2
  have main : Calls Try.prog 3 #[.string a0, .string a1, .int .u64 (n : Int), .int .i64 a3] w fun e w' => e = .returned (.bool true) ∧ Below w.heap.size w w' := by
    go_enter Try.func3, Try.ntmps3
    go_wp2_with fail
    refine (N1 _).mono ?_; rintro e w1 ⟨rfl, hb⟩
    replace K : Below w.heap.size w w1 := K.trans (hb.mono K.size)
    clear hb
    go_wp2_with fail
    refine (N2 _).mono ?_; rintro e w2 ⟨rfl, hb⟩
    replace K : Below w.heap.size w w2 := K.trans (hb.mono K.size)
    clear hb
    go_wp2_with fail
    refine (O1 _).mono ?_; rintro e w3 ⟨rfl, hb⟩
    replace K : Below w.heap.size w w3 := K.trans (hb.mono K.size)
    clear hb
    go_wp2_with fail
    refine (O2 _).mono ?_; rintro e w4 ⟨rfl, hb⟩
    replace K : Below w.heap.size w w4 := K.trans (hb.mono K.size)
    clear hb
    go_wp2_with fail
    refine (I1 _).mono ?_; rintro e w5 ⟨rfl, hb⟩
    replace K : Below w.heap.size w w5 := K.trans (hb.mono K.size)
    clear hb
    go_wp2_with fail
    refine (I2 _).mono ?_; rintro e w6 ⟨rfl, hb⟩
    replace K : Below w.heap.size w w6 := K.trans (hb.mono K.size)
    clear hb
    go_wp2_with fail
    refine (C1 _).mono ?_; rintro e w7 ⟨rfl, hb⟩
    replace K : Below w.heap.size w w7 := K.trans (hb.mono K.size)
    clear hb
    go_wp2_with fail
    refine (C2 _).mono ?_; rintro e w8 ⟨rfl, hb⟩
    replace K : Below w.heap.size w w8 := K.trans (hb.mono K.size)
    clear hb
    go_wp2_with fail
    refine (awake _).mono ?_; rintro e w9 ⟨rfl, hb⟩
    replace K : Below w.heap.size w w9 := K.trans (hb.mono K.size)
    clear hb
    go_wp2_with fail
    go_ret
    exact ⟨rfl, K⟩
  exact main

/-! ### THE ROW's STEP: WRITTEN OUT: LEAVE IT -/
set_option maxRecDepth 100000 in
theorem lifted (os : Os) (started : os.Started) (H : Type) (enc : TypeId × Value → H) :
    ReturnsInHanded {} Try.checked os 3 .any (Rows.bitsTellsSpec.pre6 enc Try.prog Try.f3 Rows.bitsTellsRow.domain false) (Rows.bitsTellsSpec.post enc Try.prog Try.f3 false true false false) := by
  refine returnsInHanded_of_change (C := Try.checked) own started (by kernel_rfl) Try.func3
    (ChangeSpec.witness6 (enc := enc) (C := Try.checked) false ⟨#[], #[.string ByteArray.empty, .string ByteArray.empty, .int .u64 0, .int .i64 0], []⟩ 8 (by kernel_rfl) (by kernel_rfl) (by kernel_rfl) (by kernel_rfl)) ?_
  intro W base args ds gs before hval0 hW hcnd _
  have hval : ∀ (j : Nat) t v, Try.f3.params[j]? = some t → args[j]? = some v → Value.okWide Try.prog W .any base t v := hval0
  have hW' := hW
  obtain ⟨p, q, hA0, hV, rfl, hfz, hnd⟩ := hW
  have hA : DataW.TrodAll enc Try.prog W 0 (fun _ => true) true Try.f3.params.toList args.toList ds p := hA0
  rw [Try.params3] at hA hval
  obtain ⟨v0, vs0, d0, ds0, p0, q0, hargs, rfl, rfl, h0, r0⟩ := trodAll_cons hA
  obtain ⟨v1, vs1, d1, ds1, p1, q1, rfl, rfl, rfl, h1, r1⟩ := trodAll_cons r0
  obtain ⟨v2, vs2, d2, ds2, p2, q2, rfl, rfl, rfl, h2, r2⟩ := trodAll_cons r1
  obtain ⟨v3, vs3, d3, ds3, p3, q3, rfl, rfl, rfl, h3, r3⟩ := trodAll_cons r2
  obtain ⟨rfl, rfl, rfl⟩ := trodAll_nil r3
  obtain rfl : args = #[v0, v1, v2, v3] := by cases args; simp_all
  obtain ⟨rfl, rfl⟩ := trodVars_none hV
  obtain ⟨a0, rfl, rfl, rfl, w0⟩ := open_string Try.underlying9 (hval 0 9 v0 rfl rfl) h0
  obtain ⟨a1, rfl, rfl, rfl, w1⟩ := open_string Try.underlying9 (hval 1 9 v1 rfl rfl) h1
  obtain ⟨a2, rfl, rfl, rfl, w2⟩ := open_int Try.underlying22 (hval 2 22 v2 rfl rfl) h2
  obtain ⟨a3, rfl, rfl, rfl, w3⟩ := open_int Try.underlying3 (hval 3 3 v3 rfl rfl) h3
  clear hA0 hval0
  simp only [List.append_nil] at hW'
  refine (walk a0 a1 a2 a3 w0 w1 w2 w3 W).mono fun e W' ⟨he, hg⟩ => ?_
  subst he
  exact ⟨_, rfl, _, _, _, [], [], [], hW', (trodAll_cons_mk (shut_bool Try.underlying4 _) trodAll_mk0), (trodAll_cons_mk (shut_string Try.underlying9 w0) (trodAll_cons_mk (shut_string Try.underlying9 w1) (trodAll_cons_mk (shut_int Try.underlying22 w2) (trodAll_cons_mk (shut_int Try.underlying3 w3) trodAll_mk0)))), rfl, hg.frame _, fun h => by cases h⟩

theorem over : Rows.bitsTellsRow.holds Try.pinned (OpenSpec.ofChange Rows.bitsTellsSpec) :=
  OpenClaim.holds_of_wide 3 Try.f3 rfl rfl rfl rfl rfl rfl rfl ⟨rfl, rfl, rfl, rfl, rfl⟩ rfl rfl rfl rfl rfl (by kernel_rfl) Try.func3 (by kernel_rfl)
    (of_decide_eq_true (by kernel_rfl)) (by unfold Func.isWrapper; first | (rw [if_pos (by decide +kernel)]; kernel_rfl) | (rw [if_neg (by decide +kernel)]; exact ⟨rfl, rfl⟩))
    (fun os started H enc _ => lifted os started H enc)

/-- ████ THE STATEMENT ████ -/
theorem proved : Rows.BitsTellsSaid :=
  over
#print axioms proved
end Go.Proofs.Ytbmifejeffgobaa.bitsTells
