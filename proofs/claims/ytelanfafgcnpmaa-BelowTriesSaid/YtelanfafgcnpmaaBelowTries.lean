/- The statement BelowTries: what is drawn is the first one of the numbers of its width, one behind the other, that is below m; as many bits are read as the tries up to it have. No condition. -/
import Derived.Test.YtelanfafgcnpmaaRows
import Derived.WalkKit
import Derived.ProofKit
import Derived.OpenShut
import Derived.Test.YtelanfafgcnpmaaBelG
import Derived.ShutString
import Derived.Below
namespace Go.Proofs.Ytelanfafgcnpmaa.belowTries
open Go.ChangeShapes Go.WideShapes Go.ChangeAt Go.RowKit
open Go.Proofs
open Go.ChangeMaps (open_string shut_string)
set_option linter.unusedVariables false      -- a walk need not use every 'w<i>' (that an integer argument fits its kind)

theorem own : ownKnob Try.prog.godebug = none := by kernel_rfl

open Go.Proofs.BL Go.Proofs.SL Go.Proofs.RA Go.Proofs.BT
set_option linter.unusedSimpArgs false

/-! ### STEP 1: THE WALK: the Go text returns true. 'Grown w w'': the world has at most new blocks (Derived/RowKit3.lean). Part the cases AHEAD of 'go_enter' where a test parts the walk; take each callee by a contract of your own. -/
set_option maxHeartbeats 4000000 in
set_option maxRecDepth 100000 in
theorem walk (a0 : ByteArray) (a1 : Int) (w0 : a0.size ≤ maxLen) (w1 : (Lit.int .u64 a1).wf = true) (w : World) :
    Calls Try.prog 7 #[.string a0, .int .u64 a1] w fun e w' => e = .returned (.bool true) ∧ Below w.heap.size w w' := by
  unfold maxLen at w0
  have hb2 := bounds_u64 w1
  obtain ⟨m, rfl⟩ : ∃ m : Nat, a1 = m := ⟨a1.toNat, by omega⟩
  have hm : m < 18446744073709551616 := by omega
  obtain ⟨z0, hz0⟩ : ∃ z, z = isB a0 := ⟨_, rfl⟩
  have HI0 := Lib.hid (fun w1 => is1w a0 w1 (by omega) z0 hz0)
  have HZ0 := Lib.hid hz0
  have hrest : z0 = false ∨ (z0 = true ∧ m = 0) ∨ (z0 = true ∧ m ≠ 0) := by
    have : m = 0 ∨ m ≠ 0 := by omega
    cases z0 <;> simp [this]
  clear hz0 w1 hb2
  rcases hrest with rfl | ⟨rfl, hm0⟩ | ⟨rfl, hm0⟩
  · clear HZ0
    go_enter Try.func7, Try.ntmps7
    go_wp2_with fail
    refine (HI0.out _).mono ?_; rintro e w' ⟨rfl, rfl⟩
    go_wp2_with fail
    refine (awake _).mono ?_; rintro e w5 ⟨rfl, hb⟩
    have K := Lib.hid hb
    go_wp2_with fail
    go_ret
    exact ⟨rfl, K.out⟩
  · clear HZ0
    subst hm0
    show Calls Try.prog 7 #[.string a0, .int .u64 0] w _
    go_enter Try.func7, Try.ntmps7
    go_wp2_with fail
    refine (HI0.out _).mono ?_; rintro e w' ⟨rfl, rfl⟩
    go_wp2_with fail
    refine (awake _).mono ?_; rintro e w5 ⟨rfl, hb⟩
    have K := Lib.hid hb
    go_wp2_with fail
    go_ret
    exact ⟨rfl, K.out⟩
  have hs := isB_le HZ0.out.symm
  have hm1 : ((m : Int) == 0) = false := by rw [beq_eq_false_iff_ne]; omega
  obtain ⟨z, hz⟩ : ∃ z, z = wid m := ⟨_, rfl⟩
  have hz64 : z ≤ 64 := by rw [hz]; exact wid_le m hm
  have HW := Lib.hid (fun w1 => width1 m w1 hm z hz)
  obtain ⟨R, hR⟩ : ∃ R, R = byD a0 m := ⟨_, rfl⟩
  have B1 := Lib.hid (fun w1 => by1 a0 m w1 (by omega) hm R hR)
  have hR2 : R = drw a0 m (a0.size + 1) 0 := by rw [hR, byD, if_pos HZ0.out.symm, draw, if_neg (by simp [hm0]), Nat.sub_zero]
  have HR := Lib.hid hR2
  have HZ := Lib.hid hz
  have HM0 := Lib.hid hm0
  have HN := Lib.hid (fun (a : Nat) (ha : a + z ≤ a0.size) (n : Nat) (hn : n = numA a0 a z) (w1 : World) => num1 (a0.extract a (a + z)) w1 (by rw [ByteArray.size_extract]; omega) (isB_mk (bits_ext (isB_bits HZ0.out.symm) _ _) (by rw [ByteArray.size_extract]; omega)) n (by rw [hn, ByteArray.size_extract, show min (a + z) a0.size - a = z by omega, numB_ext a0 a z ha z (Nat.le_refl _)]))
  have HX := Lib.hid (fun a => numA_64 a0 a z hz64)
  obtain ⟨x, is, n, ov⟩ := R
  simp only at B1
  clear hR hR2 hz hm0
  by_cases hz0 : z = 0
  · have hR := HR.out
    have hm1' := wid_zero m (by have := HM0.out; omega) (by rw [← HZ.out]; exact hz0)
    rw [drw, ← HZ.out, hz0, if_neg (by omega), numA, if_pos (by omega)] at hR
    simp only [Dr.mk.injEq] at hR
    obtain ⟨rfl, rfl, rfl, rfl⟩ := hR
    subst hz0
    clear HR HZ HN HX HZ0 hm1'
    go_enter Try.func7, Try.ntmps7
    go_wp2_with fail
    refine (HI0.out _).mono ?_; rintro e w' ⟨rfl, rfl⟩
    go_wp2_with fail
    refine (awake _).mono ?_; rintro e w5 ⟨rfl, hb⟩
    have K := Lib.hid hb
    clear hb
    go_wp2_with fail
    refine (HW.out _).mono ?_; rintro e w6 ⟨rfl, rfl⟩
    go_wp2_with fail
    refine (B1.out _).mono ?_; rintro e w7 ⟨rfl, hb⟩
    replace K := Lib.hid (Kp.nx K.out hb)
    clear hb
    go_wp2_with fail
    go_ret
    exact ⟨rfl, K.out⟩
  have hzb : ((z : Int) == 0) = false := by rw [beq_eq_false_iff_ne]; omega
  have hz1 : ¬ ((z : Int) < 0) := by omega
  have hz2 : ¬ ((64 : Int) < (z : Int)) := by omega
  clear HZ0
  go_enter Try.func7, Try.ntmps7
  go_wp2_with fail
  refine (HI0.out _).mono ?_; rintro e w' ⟨rfl, rfl⟩
  go_wp2_with fail
  refine (awake _).mono ?_; rintro e w5 ⟨rfl, hb⟩
  have K := Lib.hid hb
  clear hb
  go_wp2_with fail
  refine (HW.out _).mono ?_; rintro e w6 ⟨rfl, rfl⟩
  go_wp2_with fail
  refine (B1.out _).mono ?_; rintro e w7 ⟨rfl, hb⟩
  replace K := Lib.hid (Kp.nx K.out hb)
  clear hb B1 HW HI0
  go_wp2_with fail
  go_loopw [9] (fun s9 wr => ∃ a f : Nat, s9 = .int .i64 (a : Int) ∧ a ≤ a0.size ∧ a0.size < a + f ∧ Hid (⟨x, is, n, ov⟩ = drw a0 m f a) ∧ w7 = wr) (fun v _ => a0.size - (intOf v).toNat)
  case atStart => exact ⟨0, a0.size + 1, rfl, by omega, by omega, HR.out, rfl⟩
  case round =>
    clear HR
    obtain ⟨a, f, rfl, ha, hf, HR, rfl⟩ := hrel
    obtain ⟨f, rfl⟩ : ∃ f', f = f' + 1 := ⟨f - 1, by omega⟩
    have hR := HR.out
    rw [drw, ← HZ.out] at hR
    have hw : IntKind.i64.wrap ((a : Int) + (z : Int)) = ((a + z : Nat) : Int) := by rw [IntKind.wrap_i64]; omega
    by_cases c1 : a0.size < a + z
    · rw [if_pos c1] at hR
      have hlt : ¬ (((a + z : Nat) : Int) ≤ (a0.size : Int)) := by omega
      simp only [Dr.mk.injEq] at hR
      obtain ⟨rfl, rfl, rfl, rfl⟩ := hR
      clear HR
      go_wp2_with fail
      go_ret
      exact ⟨rfl, K.out⟩
    · rw [if_neg c1] at hR
      obtain ⟨y, hy⟩ : ∃ y, y = numA a0 a z := ⟨_, rfl⟩
      rw [← hy] at hR
      have hy64 : y < 18446744073709551616 := by rw [hy]; exact HX.out a
      have HNN := Lib.hid (HN.out a (by omega) y hy w7)
      clear hy HR
      obtain ⟨j, hj⟩ : ∃ j, j = a + z := ⟨_, rfl⟩
      rw [← hj] at hw HNN hR c1
      have hle : (j : Int) ≤ (a0.size : Int) := by omega
      have haj : (a : Int) ≤ (j : Int) := by omega
      have HJ := Lib.hid hj
      by_cases c2 : y < m
      · rw [if_pos c2] at hR
        simp only [Dr.mk.injEq] at hR
        obtain ⟨rfl, rfl, rfl, rfl⟩ := hR
        clear hj HN HX
        go_wp2_with fail
        refine HNN.out.mono ?_; rintro e w8 ⟨rfl, rfl⟩
        go_wp2_with fail
        go_ret
        exact ⟨rfl, K.out⟩
      · rw [if_neg c2] at hR
        have HR2 := Lib.hid hR
        clear hR hj
        go_wp2_with fail
        refine HNN.out.mono ?_; rintro e w8 ⟨rfl, rfl⟩
        go_wp2_with fail
        go_roundw
        case rel => exact ⟨j, f, rfl, by omega, by have := HJ.out; omega, HR2, by first | rfl | trivial⟩
        case measure => have := HJ.out; simp [intOf]; omega

/-! ### THE ROW's STEP: WRITTEN OUT: LEAVE IT -/
set_option maxRecDepth 100000 in
theorem lifted (os : Os) (started : os.Started) (H : Type) (enc : TypeId × Value → H) :
    ReturnsInHanded {} Try.checked os 7 .any (Rows.belowTriesSpec.pre6 enc Try.prog Try.f7 Rows.belowTriesRow.domain false) (Rows.belowTriesSpec.post enc Try.prog Try.f7 false true false false) := by
  refine returnsInHanded_of_change (C := Try.checked) own started (by kernel_rfl) Try.func7
    (ChangeSpec.witness6 (enc := enc) (C := Try.checked) false ⟨#[], #[.string ByteArray.empty, .int .u64 0], []⟩ 8 (by kernel_rfl) (by kernel_rfl) (by kernel_rfl) (by kernel_rfl)) ?_
  intro W base args ds gs before hval0 hW hcnd _
  have hval : ∀ (j : Nat) t v, Try.f7.params[j]? = some t → args[j]? = some v → Value.okWide Try.prog W .any base t v := hval0
  have hW' := hW
  obtain ⟨p, q, hA0, hV, rfl, hfz, hnd⟩ := hW
  have hA : DataW.TrodAll enc Try.prog W 0 (fun _ => true) true Try.f7.params.toList args.toList ds p := hA0
  rw [Try.params7] at hA hval
  obtain ⟨v0, vs0, d0, ds0, p0, q0, hargs, rfl, rfl, h0, r0⟩ := trodAll_cons hA
  obtain ⟨v1, vs1, d1, ds1, p1, q1, rfl, rfl, rfl, h1, r1⟩ := trodAll_cons r0
  obtain ⟨rfl, rfl, rfl⟩ := trodAll_nil r1
  obtain rfl : args = #[v0, v1] := by cases args; simp_all
  obtain ⟨rfl, rfl⟩ := trodVars_none hV
  obtain ⟨a0, rfl, rfl, rfl, w0⟩ := open_string Try.underlying9 (hval 0 9 v0 rfl rfl) h0
  obtain ⟨a1, rfl, rfl, rfl, w1⟩ := open_int Try.underlying22 (hval 1 22 v1 rfl rfl) h1
  clear hA0 hval0
  simp only [List.append_nil] at hW'
  refine (walk a0 a1 w0 w1 W).mono fun e W' ⟨he, hg⟩ => ?_
  subst he
  exact ⟨_, rfl, _, _, _, [], [], [], hW', (trodAll_cons_mk (shut_bool Try.underlying4 _) trodAll_mk0), (trodAll_cons_mk (shut_string Try.underlying9 w0) (trodAll_cons_mk (shut_int Try.underlying22 w1) trodAll_mk0)), rfl, hg.frame _, fun h => by cases h⟩

theorem over : Rows.belowTriesRow.holds Try.pinned (OpenSpec.ofChange Rows.belowTriesSpec) :=
  OpenClaim.holds_of_wide 7 Try.f7 rfl rfl rfl rfl rfl rfl rfl ⟨rfl, rfl, rfl, rfl, rfl⟩ rfl rfl rfl rfl rfl (by kernel_rfl) Try.func7 (by kernel_rfl)
    (of_decide_eq_true (by kernel_rfl)) (by unfold Func.isWrapper; first | (rw [if_pos (by decide +kernel)]; kernel_rfl) | (rw [if_neg (by decide +kernel)]; exact ⟨rfl, rfl⟩))
    (fun os started H enc _ => lifted os started H enc)

/-- ████ THE STATEMENT ████ -/
theorem proved : Rows.BelowTriesSaid :=
  over
#print axioms proved
end Go.Proofs.Ytelanfafgcnpmaa.belowTries
