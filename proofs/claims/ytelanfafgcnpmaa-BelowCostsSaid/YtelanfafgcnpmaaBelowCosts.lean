/- The statement BelowCosts: the width of any number, and how many bits are expected, are the document's. No condition. -/
import Derived.Test.YtelanfafgcnpmaaRows
import Derived.WalkKit
import Derived.ProofKit
import Derived.OpenShut
import Derived.Test.YtelanfafgcnpmaaBelG
import Derived.ShutString
import Derived.Below
namespace Go.Proofs.Ytelanfafgcnpmaa.belowCosts
open Go.ChangeShapes Go.WideShapes Go.ChangeAt Go.RowKit
open Go.Proofs
open Go.ChangeMaps (open_string shut_string)
set_option linter.unusedVariables false      -- a walk need not use every 'w<i>' (that an integer argument fits its kind)

theorem own : ownKnob Try.prog.godebug = none := by kernel_rfl

open Go.Proofs.BL Go.Proofs.SL Go.Proofs.RA
set_option linter.unusedSimpArgs false

/-! ### STEP 1: THE WALK: the Go text returns true. 'Grown w w'': the world has at most new blocks (Derived/RowKit3.lean). Part the cases AHEAD of 'go_enter' where a test parts the walk; take each callee by a contract of your own. -/
set_option maxHeartbeats 2000000 in
set_option maxRecDepth 100000 in
theorem walk (a0 : Int) (w0 : (Lit.int .u64 a0).wf = true) (w : World) :
    Calls Try.prog 3 #[.int .u64 a0] w fun e w' => e = .returned (.bool true) ∧ Below w.heap.size w w' := by
  have hb := bounds_u64 w0
  obtain ⟨m, rfl⟩ : ∃ m : Nat, a0 = m := ⟨a0.toNat, by omega⟩
  have hm : m < 18446744073709551616 := by omega
  obtain ⟨us, hu⟩ : ∃ s, s = cU m := ⟨_, rfl⟩
  obtain ⟨vs, hv⟩ : ∃ s, s = cV m := ⟨_, rfl⟩
  obtain ⟨ec, he⟩ : ∃ s, s = cE m := ⟨_, rfl⟩
  obtain ⟨z, hz⟩ : ∃ z, z = wid m := ⟨_, rfl⟩
  have lu : us.length ≤ 2 := by rw [hu]; exact cU_len m hm
  have lv : vs.length ≤ 1 := by rw [hv]; exact cV_len m hm
  have C1 := Lib.hid (fun w1 => costA m w1 hm hu hv he)
  have C2 := Lib.hid (fun w1 => costB m w1 hm hu hv he)
  have W1 := Lib.hid (fun w1 => width1 m w1 hm z hz)
  have W2 := Lib.hid (fun w1 => width2 m w1 hm z hz)
  clear hu hv he hz hb w0
  go_enter Try.func3, Try.ntmps3
  go_wp2_with fail
  refine (C1.out _).mono ?_; rintro e w1 ⟨p1, c1, q1, d1, rfl, ho, hq, hb⟩
  have X := Lib.hid (RatV.new ho hq)
  have K := Lib.hid (Kp.nx hb ((Kp.refl _).al (.cells #[.bool false, .slice p1 us.length c1, .slice q1 vs.length d1] 28)))
  clear C1 ho hq hb
  go_wp2_with fail
  generalize (w1.alloc (.cells #[.bool false, .slice p1 us.length c1, .slice q1 vs.length d1] 28)) = V1 at *
  refine (C2.out _).mono ?_; rintro e w2 ⟨p2, c2, q2, d2, rfl, ho, hq, hb⟩
  have Y := Lib.hid (RatV.new ho hq)
  have KA := (Kp.nx hb ((Kp.refl _).al (.cells #[.bool false, .slice p2 us.length c2, .slice q2 vs.length d2] 28)))
  replace K := Lib.hid (Kp.nx K.out KA)
  replace X := Lib.hid (X.out.nx KA)
  clear C2 ho hq hb KA
  go_wp2_with fail
  generalize (w2.alloc (.cells #[.bool false, .slice p2 us.length c2, .slice q2 vs.length d2] 28)) = V2 at *
  refine (W1.out _).mono ?_; rintro e w3 ⟨rfl, rfl⟩
  go_wp2_with fail
  refine (W2.out _).mono ?_; rintro e w3 ⟨rfl, rfl⟩
  obtain ⟨x0, x1, x2⟩ := X.out.cs
  obtain ⟨y0, y1, y2⟩ := Y.out.cs
  have HI := Lib.hid (is6 X.out.ru Y.out.ru X.out.rv Y.out.rv rfl rfl (by omega) (by omega))
  clear X Y W1 W2
  go_wp2_with fail
  refine HI.out.mono ?_; rintro e w4 ⟨rfl, hb⟩
  replace K := Lib.hid (Kp.nx K.out hb)
  clear HI hb x0 x1 x2 y0 y1 y2
  go_wp2_with fail
  refine (awake _).mono ?_; rintro e w5 ⟨rfl, hb⟩
  replace K := Lib.hid (Kp.nx K.out hb)
  go_wp2_with fail
  go_ret
  exact ⟨rfl, K.out⟩

/-! ### THE ROW's STEP: WRITTEN OUT: LEAVE IT -/
set_option maxRecDepth 100000 in
theorem lifted (os : Os) (started : os.Started) (H : Type) (enc : TypeId × Value → H) :
    ReturnsInHanded {} Try.checked os 3 .any (Rows.belowCostsSpec.pre6 enc Try.prog Try.f3 Rows.belowCostsRow.domain false) (Rows.belowCostsSpec.post enc Try.prog Try.f3 false true false false) := by
  refine returnsInHanded_of_change (C := Try.checked) own started (by kernel_rfl) Try.func3
    (ChangeSpec.witness6 (enc := enc) (C := Try.checked) false ⟨#[], #[.int .u64 0], []⟩ 8 (by kernel_rfl) (by kernel_rfl) (by kernel_rfl) (by kernel_rfl)) ?_
  intro W base args ds gs before hval0 hW hcnd _
  have hval : ∀ (j : Nat) t v, Try.f3.params[j]? = some t → args[j]? = some v → Value.okWide Try.prog W .any base t v := hval0
  have hW' := hW
  obtain ⟨p, q, hA0, hV, rfl, hfz, hnd⟩ := hW
  have hA : DataW.TrodAll enc Try.prog W 0 (fun _ => true) true Try.f3.params.toList args.toList ds p := hA0
  rw [Try.params3] at hA hval
  obtain ⟨v0, vs0, d0, ds0, p0, q0, hargs, rfl, rfl, h0, r0⟩ := trodAll_cons hA
  obtain ⟨rfl, rfl, rfl⟩ := trodAll_nil r0
  obtain rfl : args = #[v0] := by cases args; simp_all
  obtain ⟨rfl, rfl⟩ := trodVars_none hV
  obtain ⟨a0, rfl, rfl, rfl, w0⟩ := open_int Try.underlying22 (hval 0 22 v0 rfl rfl) h0
  clear hA0 hval0
  simp only [List.append_nil] at hW'
  refine (walk a0 w0 W).mono fun e W' ⟨he, hg⟩ => ?_
  subst he
  exact ⟨_, rfl, _, _, _, [], [], [], hW', (trodAll_cons_mk (shut_bool Try.underlying4 _) trodAll_mk0), (trodAll_cons_mk (shut_int Try.underlying22 w0) trodAll_mk0), rfl, hg.frame _, fun h => by cases h⟩

theorem over : Rows.belowCostsRow.holds Try.pinned (OpenSpec.ofChange Rows.belowCostsSpec) :=
  OpenClaim.holds_of_wide 3 Try.f3 rfl rfl rfl rfl rfl rfl rfl ⟨rfl, rfl, rfl, rfl, rfl⟩ rfl rfl rfl rfl rfl (by kernel_rfl) Try.func3 (by kernel_rfl)
    (of_decide_eq_true (by kernel_rfl)) (by unfold Func.isWrapper; first | (rw [if_pos (by decide +kernel)]; kernel_rfl) | (rw [if_neg (by decide +kernel)]; exact ⟨rfl, rfl⟩))
    (fun os started H enc _ => lifted os started H enc)

/-- ████ THE STATEMENT ████ -/
theorem proved : Rows.BelowCostsSaid :=
  over
#print axioms proved
end Go.Proofs.Ytelanfafgcnpmaa.belowCosts
