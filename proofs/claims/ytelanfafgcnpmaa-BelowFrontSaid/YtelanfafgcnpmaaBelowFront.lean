/- The statement BelowFront: with other bits behind those that were read it is the same; with fewer than those it needs more. No condition. -/
import Derived.Test.YtelanfafgcnpmaaRows
import Derived.WalkKit
import Derived.ProofKit
import Derived.OpenShut
import Derived.Test.YtelanfafgcnpmaaBelG
import Derived.ShutString
import Derived.Below
namespace Go.Proofs.Ytelanfafgcnpmaa.belowFront
open Go.ChangeShapes Go.WideShapes Go.ChangeAt Go.RowKit
open Go.Proofs
open Go.ChangeMaps (open_string shut_string)
set_option linter.unusedVariables false      -- a walk need not use every 'w<i>' (that an integer argument fits its kind)

theorem own : ownKnob Try.prog.godebug = none := by kernel_rfl

open Go.Proofs.BL Go.Proofs.SL Go.Proofs.RA Go.Proofs.BT
set_option linter.unusedSimpArgs false

/-! ### STEP 1: THE WALK: the Go text returns true. 'Grown w w'': the world has at most new blocks (Derived/RowKit3.lean). Part the cases AHEAD of 'go_enter' where a test parts the walk; take each callee by a contract of your own. -/
set_option maxHeartbeats 4000000 in
set_option maxRecDepth 100000 in
theorem walk (a0 : ByteArray) (a1 : ByteArray) (a2 : Int) (a3 : Int) (w0 : a0.size ≤ maxLen) (w1 : a1.size ≤ maxLen) (w2 : (Lit.int .u64 a2).wf = true) (w3 : (Lit.int .u16 a3).wf = true) (w : World) :
    Calls Try.prog 4 #[.string a0, .string a1, .int .u64 a2, .int .u16 a3] w fun e w' => e = .returned (.bool true) ∧ Below w.heap.size w w' := by
  unfold maxLen at w0 w1
  have hb2 := bounds_u64 w2
  obtain ⟨m, rfl⟩ : ∃ m : Nat, a2 = m := ⟨a2.toNat, by omega⟩
  have hm : m < 18446744073709551616 := by omega
  obtain ⟨ct, hct, hctl⟩ : ∃ ct : Nat, a3 = ct ∧ ct ≤ 65535 := by
    simp only [Lit.wf, IntKind.signed, IntKind.bits, decide_eq_true_eq, Bool.and_eq_true] at w3
    have h : (0 : Int) ≤ a3 ∧ a3 ≤ 65535 := w3
    exact ⟨a3.toNat, by omega, by omega⟩
  subst hct
  obtain ⟨z0, hz0⟩ : ∃ z, z = isB a0 := ⟨_, rfl⟩
  obtain ⟨z1, hz1⟩ : ∃ z, z = isB a1 := ⟨_, rfl⟩
  have HI0 := Lib.hid (fun w1 => is1w a0 w1 (by omega) z0 hz0)
  have HI1 := Lib.hid (fun w2 => is1w a1 w2 (by omega) z1 hz1)
  have HZ0 := Lib.hid hz0
  have HZ1 := Lib.hid hz1
  have hrest : z0 = false ∨ (z0 = true ∧ z1 = false) ∨ (z0 = true ∧ z1 = true ∧ 1024 < a0.size + a1.size) ∨ (z0 = true ∧ z1 = true ∧ a0.size + a1.size ≤ 1024) := by
    have := Nat.lt_or_ge 1024 (a0.size + a1.size)
    cases z0 <;> cases z1 <;> simp <;> omega
  clear hz0 hz1 w2 w3 hb2
  rcases hrest with rfl | ⟨rfl, rfl⟩ | ⟨rfl, rfl, hl⟩ | ⟨rfl, rfl, hl⟩
  · clear HZ0 HZ1 HI1
    go_enter Try.func4, Try.ntmps4
    go_wp2_with fail
    refine (HI0.out _).mono ?_; rintro e w' ⟨rfl, rfl⟩
    go_wp2_with fail
    refine (awake _).mono ?_; rintro e w5 ⟨rfl, hb⟩
    have K := Lib.hid hb
    go_wp2_with fail
    go_ret
    exact ⟨rfl, K.out⟩
  · clear HZ0 HZ1
    go_enter Try.func4, Try.ntmps4
    go_wp2_with fail
    refine (HI0.out _).mono ?_; rintro e w' ⟨rfl, rfl⟩
    go_wp2_with fail
    refine (HI1.out _).mono ?_; rintro e w' ⟨rfl, rfl⟩
    go_wp2_with fail
    refine (awake _).mono ?_; rintro e w5 ⟨rfl, hb⟩
    have K := Lib.hid hb
    go_wp2_with fail
    go_ret
    exact ⟨rfl, K.out⟩
  · have s0 := isB_le HZ0.out.symm
    have s1 := isB_le HZ1.out.symm
    have hw : IntKind.i64.wrap ((a0.size : Int) + (a1.size : Int)) = (a0.size : Int) + (a1.size : Int) := by rw [IntKind.wrap_i64]; omega
    have hlt : (1024 : Int) < (a0.size : Int) + (a1.size : Int) := by omega
    clear HZ0 HZ1
    go_enter Try.func4, Try.ntmps4
    go_wp2_with fail
    refine (HI0.out _).mono ?_; rintro e w' ⟨rfl, rfl⟩
    go_wp2_with fail
    refine (HI1.out _).mono ?_; rintro e w' ⟨rfl, rfl⟩
    go_wp2_with fail
    refine (awake _).mono ?_; rintro e w5 ⟨rfl, hb⟩
    have K := Lib.hid hb
    go_wp2_with fail
    go_ret
    exact ⟨rfl, K.out⟩
  · have s0 := isB_le HZ0.out.symm
    have s1 := isB_le HZ1.out.symm
    have hw : IntKind.i64.wrap ((a0.size : Int) + (a1.size : Int)) = (a0.size : Int) + (a1.size : Int) := by rw [IntKind.wrap_i64]; omega
    have hlt : ¬ ((1024 : Int) < (a0.size : Int) + (a1.size : Int)) := by omega
    obtain ⟨R, hR⟩ : ∃ R, R = byD a0 m := ⟨_, rfl⟩
    have hat := (byD_at a0 m).1
    have hx0 := (byD_at a0 m).2
    rw [← hR] at hat hx0
    have B1 := Lib.hid (fun w1 => by1 a0 m w1 (by omega) hm R hR)
    have B2 := Lib.hid (fun (hi : R.is = true) (w2 : World) => by1 (a0.extract 0 R.at' ++ a1) m w2 (by rw [ByteArray.size_append, ByteArray.size_extract]; omega) hm R (by rw [hR] at hi ⊢; exact (byD_front HZ0.out.symm (isB_bits HZ1.out.symm) hl hi).symm))
    have B3 := Lib.hid (fun (hi : R.is = true) (c : Nat) (hc : c < R.at') => show (byD (a0.extract 0 c) m).is = false by rw [hR] at hi hc; exact byD_fewer HZ0.out.symm hi hc)
    have B4 := Lib.hid (fun (c : Nat) (hc : c ≤ a0.size) (w2 : World) => by1 (a0.extract 0 c) m w2 (by rw [ByteArray.size_extract]; omega) hm _ rfl)
    obtain ⟨x, is, n, ov⟩ := R
    simp only at hat hx0 B1 B2 B3
    clear hR HZ0 HZ1
    have hn0 : ¬ ((n : Int) < 0) := by omega
    have hn1 : ¬ ((a0.size : Int) < (n : Int)) := by omega
    cases is with
    | false =>
      obtain rfl : x = 0 := hx0 rfl
      clear B2 B3 B4 hx0
      go_enter Try.func4, Try.ntmps4
      go_wp2_with fail
      refine (HI0.out _).mono ?_; rintro e w' ⟨rfl, rfl⟩
      go_wp2_with fail
      refine (HI1.out _).mono ?_; rintro e w' ⟨rfl, rfl⟩
      go_wp2_with fail
      refine (awake _).mono ?_; rintro e w5 ⟨rfl, hb⟩
      have K := Lib.hid hb
      clear hb
      go_wp2_with fail
      refine (B1.out _).mono ?_; rintro e w6 ⟨rfl, hb⟩
      replace K := Lib.hid (Kp.nx K.out hb)
      clear hb B1
      go_wp2_with fail
      go_ret
      exact ⟨rfl, K.out⟩
    | true =>
      have C2 := Lib.hid (B2.out rfl)
      obtain ⟨c, hc⟩ : ∃ c, c = ct % n := ⟨_, rfl⟩
      have hcl : n ≠ 0 → c < n := fun h => by rw [hc]; exact Nat.mod_lt _ (by omega)
      obtain ⟨R3, hR3⟩ : ∃ R3, R3 = byD (a0.extract 0 c) m := ⟨_, rfl⟩
      have hi3 : n ≠ 0 → R3.is = false := fun h => by rw [hR3]; exact B3.out rfl c (hcl h)
      have C4 := Lib.hid (fun (h : n ≠ 0) => show ∀ w2, _ from hR3 ▸ B4.out c (by have := hcl h; omega))
      have HC := Lib.hid hc
      have hsum : (a0.extract 0 n).size + a1.size ≤ 1024 := by rw [ByteArray.size_extract]; omega
      clear B2 B3 B4 hx0 hR3 hc
      go_enter Try.func4, Try.ntmps4
      go_wp2_with fail
      refine (HI0.out _).mono ?_; rintro e w' ⟨rfl, rfl⟩
      go_wp2_with fail
      refine (HI1.out _).mono ?_; rintro e w' ⟨rfl, rfl⟩
      go_wp2_with fail
      refine (awake _).mono ?_; rintro e w5 ⟨rfl, hb⟩
      have K := Lib.hid hb
      clear hb
      go_wp2_with fail
      refine (B1.out _).mono ?_; rintro e w6 ⟨rfl, hb⟩
      replace K := Lib.hid (Kp.nx K.out hb)
      clear hb B1
      go_wp2_with fail
      refine (C2.out _).mono ?_; rintro e w7 ⟨rfl, hb⟩
      replace K := Lib.hid (Kp.nx K.out hb)
      clear hb C2
      by_cases hn : n = 0
      · subst hn
        go_wp2_with fail
        go_ret
        exact ⟨rfl, K.out⟩
      · have hc := hcl hn
        have hnb : ((n : Int) == 0) = false := by rw [beq_eq_false_iff_ne]; omega
        have hnz : ¬ ((n : Int) = 0) := by omega
        have hce : ((ct : Int) % (n : Int)) = (c : Int) := by rw [HC.out]; simp
        have hca : ((ct : Int) % (n : Int)) ≤ (a0.size : Int) := by rw [hce]; omega
        have hcz : ¬ (((ct : Int) % (n : Int)) < 0) := by rw [hce]; omega
        have C5 := Lib.hid (C4.out hn)
        obtain ⟨x3, i3, n3, o3⟩ := R3
        obtain rfl : i3 = false := hi3 hn
        have hc' := HC.out
        subst hc'
        clear C4 hi3 hcl HC hce
        go_wp2_with fail
        refine (C5.out _).mono ?_; rintro e w8 ⟨rfl, hb⟩
        replace K := Lib.hid (Kp.nx K.out hb)
        clear hb C5
        go_wp2_with fail
        go_ret
        exact ⟨rfl, K.out⟩

/-! ### THE ROW's STEP: WRITTEN OUT: LEAVE IT -/
set_option maxRecDepth 100000 in
theorem lifted (os : Os) (started : os.Started) (H : Type) (enc : TypeId × Value → H) :
    ReturnsInHanded {} Try.checked os 4 .any (Rows.belowFrontSpec.pre6 enc Try.prog Try.f4 Rows.belowFrontRow.domain false) (Rows.belowFrontSpec.post enc Try.prog Try.f4 false true false false) := by
  refine returnsInHanded_of_change (C := Try.checked) own started (by kernel_rfl) Try.func4
    (ChangeSpec.witness6 (enc := enc) (C := Try.checked) false ⟨#[], #[.string ByteArray.empty, .string ByteArray.empty, .int .u64 0, .int .u16 0], []⟩ 8 (by kernel_rfl) (by kernel_rfl) (by kernel_rfl) (by kernel_rfl)) ?_
  intro W base args ds gs before hval0 hW hcnd _
  have hval : ∀ (j : Nat) t v, Try.f4.params[j]? = some t → args[j]? = some v → Value.okWide Try.prog W .any base t v := hval0
  have hW' := hW
  obtain ⟨p, q, hA0, hV, rfl, hfz, hnd⟩ := hW
  have hA : DataW.TrodAll enc Try.prog W 0 (fun _ => true) true Try.f4.params.toList args.toList ds p := hA0
  rw [Try.params4] at hA hval
  obtain ⟨v0, vs0, d0, ds0, p0, q0, hargs, rfl, rfl, h0, r0⟩ := trodAll_cons hA
  obtain ⟨v1, vs1, d1, ds1, p1, q1, rfl, rfl, rfl, h1, r1⟩ := trodAll_cons r0
  obtain ⟨v2, vs2, d2, ds2, p2, q2, rfl, rfl, rfl, h2, r2⟩ := trodAll_cons r1
  obtain ⟨v3, vs3, d3, ds3, p3, q3, rfl, rfl, rfl, h3, r3⟩ := trodAll_cons r2
  obtain ⟨rfl, rfl, rfl⟩ := trodAll_nil r3
  obtain rfl : args = #[v0, v1, v2, v3] := by cases args; simp_all
  obtain ⟨rfl, rfl⟩ := trodVars_none hV
  obtain ⟨a0, rfl, rfl, rfl, w0⟩ := open_string Try.underlying9 (hval 0 9 v0 rfl rfl) h0
  obtain ⟨a1, rfl, rfl, rfl, w1⟩ := open_string Try.underlying9 (hval 1 9 v1 rfl rfl) h1
  obtain ⟨a2, rfl, rfl, rfl, w2⟩ := open_int Try.underlying22 (hval 2 22 v2 rfl rfl) h2
  obtain ⟨a3, rfl, rfl, rfl, w3⟩ := open_int Try.underlying36 (hval 3 36 v3 rfl rfl) h3
  clear hA0 hval0
  simp only [List.append_nil] at hW'
  refine (walk a0 a1 a2 a3 w0 w1 w2 w3 W).mono fun e W' ⟨he, hg⟩ => ?_
  subst he
  exact ⟨_, rfl, _, _, _, [], [], [], hW', (trodAll_cons_mk (shut_bool Try.underlying4 _) trodAll_mk0), (trodAll_cons_mk (shut_string Try.underlying9 w0) (trodAll_cons_mk (shut_string Try.underlying9 w1) (trodAll_cons_mk (shut_int Try.underlying22 w2) (trodAll_cons_mk (shut_int Try.underlying36 w3) trodAll_mk0)))), rfl, hg.frame _, fun h => by cases h⟩

theorem over : Rows.belowFrontRow.holds Try.pinned (OpenSpec.ofChange Rows.belowFrontSpec) :=
  OpenClaim.holds_of_wide 4 Try.f4 rfl rfl rfl rfl rfl rfl rfl ⟨rfl, rfl, rfl, rfl, rfl⟩ rfl rfl rfl rfl rfl (by kernel_rfl) Try.func4 (by kernel_rfl)
    (of_decide_eq_true (by kernel_rfl)) (by unfold Func.isWrapper; first | (rw [if_pos (by decide +kernel)]; kernel_rfl) | (rw [if_neg (by decide +kernel)]; exact ⟨rfl, rfl⟩))
    (fun os started H enc _ => lifted os started H enc)

/-- ████ THE STATEMENT ████ -/
theorem proved : Rows.BelowFrontSaid :=
  over
#print axioms proved
end Go.Proofs.Ytelanfafgcnpmaa.belowFront
