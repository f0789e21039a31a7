/- The statement BitsNames: the examples; strings and numbers at their ends; parts that are none. A closed statement. -/
import Derived.Test.YtbmifejeffgobaaRows
import Derived.WalkKit
import Derived.ProofKit
import Derived.OpenShut
import Derived.Test.YtbmifejeffgobaaBitsR
import Derived.ShutString
import Derived.Below
namespace Go.Proofs.Ytbmifejeffgobaa.bitsNames
open Go.ChangeShapes Go.WideShapes Go.ChangeAt Go.RowKit
open Go.Proofs
open Go.ChangeMaps (open_string shut_string)
set_option linter.unusedVariables false      -- a walk need not use every 'w<i>' (that an integer argument fits its kind)

theorem own : ownKnob Try.prog.godebug = none := by kernel_rfl

open Go.Proofs.BT
set_option linter.unusedSimpArgs false


/-! ### STEP 1: THE WALK: the Go text returns true. 'Grown w w'': the world has at most new blocks (Derived/RowKit3.lean). Part the cases AHEAD of 'go_enter' where a test parts the walk; take each callee by a contract of your own. -/
set_option maxHeartbeats 8000000 in
set_option maxRecDepth 100000 in
theorem walk (w : World) :
    Calls Try.prog 5 #[] w fun e w' => e = .returned (.bool true) ∧ Below w.heap.size w w' := by
  have K : Below w.heap.size w w := Below.refl _ _
  go_enter Try.func5, Try.ntmps5
  go_wp2_with fail
  refine (awake _).mono ?_; rintro e w1 ⟨rfl, hb⟩
  replace K : Below w.heap.size w w1 := K.trans (hb.mono K.size)
  clear hb
  go_wp2_with fail
  go_loop [1, 2, 3] (fun a b v => ∃ (i : Nat) (x y : ByteArray), a = .string x ∧ b = .string y ∧ v = .int .i64 i ∧ i ≤ 1024 ∧ x.size ≤ i ∧ i ≤ x.size ∧ y.size ≤ i ∧ i ≤ y.size ∧ Hid (x = rep 48 i) ∧ Hid (y = rep 49 i)) (fun _ _ v => 1024 - (intOf v).toNat)
  case atStart => exact ⟨0, ⟨#[]⟩, ⟨#[]⟩, rfl, rfl, rfl, by omega, by decide, by decide, by decide, by decide, rfl, rfl⟩
  case round =>
    obtain ⟨i, x, y, rfl, rfl, rfl, hi, hx1, hx2, hy1, hy2, HX, HY⟩ := hrel
    by_cases hlt : i < 1024
    · have hX2 : Hid (x ++ ⟨#[48]⟩ = rep 48 (i + 1)) := by rw [Hid, HX.out]; exact rep_succ _ _
      have hY2 : Hid (y ++ ⟨#[49]⟩ = rep 49 (i + 1)) := by rw [Hid, HY.out]; exact rep_succ _ _
      go_wp2_with fail
      go_round
      case rel => exact ⟨i + 1, _, _, rfl, rfl, by go_num, by omega, by rw [hX2.out, rep_size]; omega, by rw [hX2.out, rep_size]; omega, by rw [hY2.out, rep_size]; omega, by rw [hY2.out, rep_size]; omega, hX2, hY2⟩
      case measure => simp [intOf]; omega
    · obtain rfl : i = 1024 := by omega
      have N1 := Lib.hid (show Ret 15 #[.string y] (.tuple #[.string ⟨#[]⟩, .bool false]) from by rw [HY.out]; exact nx_full)
      have N2 := Lib.hid (show Ret 15 #[.string (y.extract 1 y.size)] (.tuple #[.string x, .bool true]) from by rw [HX.out, HY.out, rep_size, rep_ext _ _ _ _ (by omega) (by omega)]; exact nx_more)
      have N3 := Lib.hid (show Ret 15 #[.string (y ++ ⟨#[49]⟩)] (.tuple #[.string ⟨#[]⟩, .bool false]) from by rw [HY.out, rep_succ]; exact nx_long)
      have N4 := Lib.hid (show Ret 15 #[.string ⟨#[50]⟩] (.tuple #[.string ⟨#[]⟩, .bool false]) from nx_two)
      have M1 := Lib.hid (show Ret 7 #[.string (y.extract 0 64)] (.tuple #[.int .u64 18446744073709551615, .int .i64 0]) from by rw [HY.out, rep_ext _ _ _ _ (by omega) (by omega)]; exact nu_64)
      have M2 := Lib.hid (show Ret 7 #[.string (y.extract 0 65)] (.tuple #[.int .u64 0, .int .i64 5]) from by rw [HY.out, rep_ext _ _ _ _ (by omega) (by omega)]; exact nu_65)
      have M3 := Lib.hid (show Ret 7 #[.string ⟨#[48, 32]⟩] (.tuple #[.int .u64 0, .int .i64 3]) from nu_form)
      have O1 := Lib.hid (show Ret 9 #[.int .u64 18446744073709551615, .int .i64 64] (.tuple #[.string (y.extract 0 64), .int .i64 0]) from by rw [HY.out, rep_ext _ _ _ _ (by omega) (by omega)]; exact of_64)
      have O2 := Lib.hid (show Ret 9 #[.int .u64 9223372036854775808, .int .i64 63] (.tuple #[.string ⟨#[]⟩, .int .i64 1]) from of_63)
      have O3 := Lib.hid (show Ret 9 #[.int .u64 0, .int .i64 65] (.tuple #[.string ⟨#[]⟩, .int .i64 1]) from of_65)
      have O4 := Lib.hid (show Ret 9 #[.int .u64 0, .int .i64 (-1)] (.tuple #[.string ⟨#[]⟩, .int .i64 1]) from of_m1)
      have O5 := Lib.hid (show Ret 9 #[.int .u64 0, .int .i64 0] (.tuple #[.string ⟨#[]⟩, .int .i64 0]) from of_00)
      have D1 := Lib.hid (show Ret 21 #[.string ⟨#[49, 48]⟩, .int .i64 2] (.tuple #[.string ⟨#[]⟩, .int .i64 1]) from dn_2)
      have D2 := Lib.hid (show Ret 21 #[.string ⟨#[49, 48]⟩, .int .i64 1] (.tuple #[.string ⟨#[]⟩, .int .i64 1]) from dn_1)
      have D3 := Lib.hid (show Ret 21 #[.string ⟨#[49, 48]⟩, .int .i64 (-1)] (.tuple #[.string ⟨#[]⟩, .int .i64 1]) from dn_m1)
      have D4 := Lib.hid (show Ret 21 #[.string ⟨#[120]⟩, .int .i64 0] (.tuple #[.string ⟨#[]⟩, .int .i64 3]) from dn_x)
      have D5 := Lib.hid (show Ret 21 #[.string y, .int .i64 1023] (.tuple #[.string (y.extract 1 y.size ++ ⟨#[48]⟩), .int .i64 0]) from by rw [HY.out, rep_size, rep_ext _ _ _ _ (by omega) (by omega)]; exact dn_end)
      have I1 := Lib.hid (show Ret 11 #[.string y] (.bool true) from by rw [HY.out]; exact is_ones)
      have I2 := Lib.hid (show Ret 11 #[.string (y ++ ⟨#[49]⟩)] (.bool false) from by rw [HY.out, rep_succ]; exact is_more)
      have C1 := Lib.hid (show Ret 13 #[.string ⟨#[98]⟩, .string ⟨#[97]⟩] (.int .i64 1) from cm_ba)
      have C2 := Lib.hid (show Ret 13 #[.string ⟨#[]⟩, .string ⟨#[255]⟩] (.int .i64 (-1)) from cm_ff)
      clear HX HY
      go_wp2_with fail
      refine (N1.out _).mono ?_; rintro e w2 ⟨rfl, hb⟩
      replace K : Below w.heap.size w w2 := K.trans (hb.mono K.size)
      clear hb
      go_wp2_with fail
      refine (N2.out _).mono ?_; rintro e w3 ⟨rfl, hb⟩
      replace K : Below w.heap.size w w3 := K.trans (hb.mono K.size)
      clear hb
      go_wp2_with fail
      refine (N3.out _).mono ?_; rintro e w4 ⟨rfl, hb⟩
      replace K : Below w.heap.size w w4 := K.trans (hb.mono K.size)
      clear hb
      go_wp2_with fail
      refine (N4.out _).mono ?_; rintro e w5 ⟨rfl, hb⟩
      replace K : Below w.heap.size w w5 := K.trans (hb.mono K.size)
      clear hb
      go_wp2_with fail
      refine (M1.out _).mono ?_; rintro e w6 ⟨rfl, hb⟩
      replace K : Below w.heap.size w w6 := K.trans (hb.mono K.size)
      clear hb
      go_wp2_with fail
      refine (M2.out _).mono ?_; rintro e w7 ⟨rfl, hb⟩
      replace K : Below w.heap.size w w7 := K.trans (hb.mono K.size)
      clear hb
      go_wp2_with fail
      refine (M3.out _).mono ?_; rintro e w8 ⟨rfl, hb⟩
      replace K : Below w.heap.size w w8 := K.trans (hb.mono K.size)
      clear hb
      go_wp2_with fail
      refine (O1.out _).mono ?_; rintro e w9 ⟨rfl, hb⟩
      replace K : Below w.heap.size w w9 := K.trans (hb.mono K.size)
      clear hb
      go_wp2_with fail
      refine (O2.out _).mono ?_; rintro e w10 ⟨rfl, hb⟩
      replace K : Below w.heap.size w w10 := K.trans (hb.mono K.size)
      clear hb
      go_wp2_with fail
      refine (O3.out _).mono ?_; rintro e w11 ⟨rfl, hb⟩
      replace K : Below w.heap.size w w11 := K.trans (hb.mono K.size)
      clear hb
      go_wp2_with fail
      refine (O4.out _).mono ?_; rintro e w12 ⟨rfl, hb⟩
      replace K : Below w.heap.size w w12 := K.trans (hb.mono K.size)
      clear hb
      go_wp2_with fail
      refine (O5.out _).mono ?_; rintro e w13 ⟨rfl, hb⟩
      replace K : Below w.heap.size w w13 := K.trans (hb.mono K.size)
      clear hb
      go_wp2_with fail
      obtain ⟨G, hG⟩ : ∃ G, w13.heap.size = G := ⟨_, rfl⟩
      have hGw : w.heap.size ≤ G := by rw [← hG]; exact K.size
      rw [hG]
      have T0 : Hid (tableB G (w13.alloc (.cells askC 37))) := by
        rw [← hG]; exact tableB_new w13 _
      have K0 : Below w.heap.size w (w13.alloc (.cells askC 37)) := K.alloc K.size _
      clear K hG
      go_loopw [196] (fun v wr => ∃ i : Nat, v = .int .i64 i ∧ i ≤ 11 ∧ Hid (tableB G wr) ∧ Below w.heap.size w wr) (fun v _ => 11 - (intOf v).toNat)
      case atStart => exact ⟨0, rfl, by omega, T0, K0⟩
      case round =>
        obtain ⟨i, rfl, hi, HT, KX⟩ := hrel
        clear T0 K0
        by_cases hlt2 : i < 11
        · obtain ⟨c0, c1, c2, c3, hGs⟩ := HT.out i hlt2
          obtain ⟨cx, cy, A1, A2⟩ := BT.ask i hlt2
          have HA1 := Lib.hid A1
          have HA2 := Lib.hid A2
          have S0 := Lib.hid (structIn_new wr 37 (.string (askS i)) (.int .i64 (askA i)) (.int .i64 (askK i)) (.int .i64 (askE i)))
          obtain ⟨gx, hgx⟩ : ∃ gx, wr.heap.size = gx := ⟨_, rfl⟩
          have hgw : w.heap.size ≤ gx := by rw [← hgx]; exact KX.size
          have HGX := Lib.hid hgx
          clear A1 A2 hgx
          go_wp2_with fail
          have T1 := Lib.hid (HT.out.later (show Below wr.heap.size wr (wr.alloc (.cells #[.string (askS i), .int .i64 (askA i), .int .i64 (askK i), .int .i64 (askE i)] 37)) from (Below.refl _ _).alloc (Nat.le_refl _) _))
          have K1 := KX.alloc KX.size (.cells #[.string (askS i), .int .i64 (askA i), .int .i64 (askK i), .int .i64 (askE i)] 37)
          rw [HGX.out] at S0 ⊢
          refine (HA1.out _).mono ?_; rintro e x1 ⟨rfl, hb⟩
          have S1 := S0.out.later hb
          obtain ⟨d0, d1, d2, d3, hds⟩ := S1
          have T2 := Lib.hid (T1.out.later hb)
          have K2 : Below w.heap.size w x1 := K1.trans (hb.mono K1.size)
          clear hb K1 T1 c0 c1 c2 c3
          go_wp2_with fail
          refine (HA2.out _).mono ?_; rintro e x2 ⟨rfl, hb⟩
          obtain ⟨e0, e1, e2, e3, hes⟩ := structIn.later ⟨d0, d1, d2, d3, hds⟩ hb
          have T3 := Lib.hid (T2.out.later hb)
          have K3 : Below w.heap.size w x2 := K2.trans (hb.mono K2.size)
          clear hb K2 T2 d0 d1 d2 d3
          go_wp2_with fail
          go_roundw
          case rel => exact ⟨i + 1, by go_num, by omega, T3, K3⟩
          case measure => simp [intOf]; omega
        · obtain rfl : i = 11 := by omega
          have K := KX
          clear KX HT
          go_wp2_with fail
          refine (D1.out _).mono ?_; rintro e w14 ⟨rfl, hb⟩
          replace K : Below w.heap.size w w14 := K.trans (hb.mono K.size)
          clear hb
          go_wp2_with fail
          refine (D2.out _).mono ?_; rintro e w15 ⟨rfl, hb⟩
          replace K : Below w.heap.size w w15 := K.trans (hb.mono K.size)
          clear hb
          go_wp2_with fail
          refine (D3.out _).mono ?_; rintro e w16 ⟨rfl, hb⟩
          replace K : Below w.heap.size w w16 := K.trans (hb.mono K.size)
          clear hb
          go_wp2_with fail
          refine (D4.out _).mono ?_; rintro e w17 ⟨rfl, hb⟩
          replace K : Below w.heap.size w w17 := K.trans (hb.mono K.size)
          clear hb
          go_wp2_with fail
          refine (D5.out _).mono ?_; rintro e w18 ⟨rfl, hb⟩
          replace K : Below w.heap.size w w18 := K.trans (hb.mono K.size)
          clear hb
          go_wp2_with fail
          refine (I1.out _).mono ?_; rintro e w19 ⟨rfl, hb⟩
          replace K : Below w.heap.size w w19 := K.trans (hb.mono K.size)
          clear hb
          go_wp2_with fail
          refine (I2.out _).mono ?_; rintro e w20 ⟨rfl, hb⟩
          replace K : Below w.heap.size w w20 := K.trans (hb.mono K.size)
          clear hb
          go_wp2_with fail
          refine (C1.out _).mono ?_; rintro e w21 ⟨rfl, hb⟩
          replace K : Below w.heap.size w w21 := K.trans (hb.mono K.size)
          clear hb
          go_wp2_with fail
          refine (C2.out _).mono ?_; rintro e w22 ⟨rfl, hb⟩
          replace K : Below w.heap.size w w22 := K.trans (hb.mono K.size)
          clear hb
          go_wp2_with fail
          go_ret
          exact ⟨rfl, K⟩

/-! ### THE ROW's STEP: WRITTEN OUT: LEAVE IT -/
set_option maxRecDepth 100000 in
theorem lifted (os : Os) (started : os.Started) (H : Type) (enc : TypeId × Value → H) :
    ReturnsInHanded {} Try.checked os 5 .any (Rows.bitsNamesSpec.pre6 enc Try.prog Try.f5 Rows.bitsNamesRow.domain false) (Rows.bitsNamesSpec.post enc Try.prog Try.f5 false true false false) := by
  refine returnsInHanded_of_change (C := Try.checked) own started (by kernel_rfl) Try.func5
    (ChangeSpec.witness6 (enc := enc) (C := Try.checked) false ⟨#[], #[], []⟩ 8 (by kernel_rfl) (by kernel_rfl) (by kernel_rfl) (by kernel_rfl)) ?_
  intro W base args ds gs before hval0 hW hcnd _
  have hval : ∀ (j : Nat) t v, Try.f5.params[j]? = some t → args[j]? = some v → Value.okWide Try.prog W .any base t v := hval0
  have hW' := hW
  obtain ⟨p, q, hA0, hV, rfl, hfz, hnd⟩ := hW
  have hA : DataW.TrodAll enc Try.prog W 0 (fun _ => true) true Try.f5.params.toList args.toList ds p := hA0
  rw [Try.params5] at hA hval
  obtain ⟨rfl, rfl, rfl⟩ := trodAll_none hA
  obtain ⟨rfl, rfl⟩ := trodVars_none hV
  clear hA0 hval0
  simp only [List.append_nil] at hW'
  refine (walk  W).mono fun e W' ⟨he, hg⟩ => ?_
  subst he
  exact ⟨_, rfl, _, _, _, [], [], [], hW', (trodAll_cons_mk (shut_bool Try.underlying4 _) trodAll_mk0), rfl, rfl, hg.frame _, fun h => by cases h⟩

theorem over : Rows.bitsNamesRow.holds Try.pinned (OpenSpec.ofChange Rows.bitsNamesSpec) :=
  OpenClaim.holds_of_wide 5 Try.f5 rfl rfl rfl rfl rfl rfl rfl ⟨rfl, rfl, rfl, rfl, rfl⟩ rfl rfl rfl rfl rfl (by kernel_rfl) Try.func5 (by kernel_rfl)
    (of_decide_eq_true (by kernel_rfl)) (by unfold Func.isWrapper; first | (rw [if_pos (by decide +kernel)]; kernel_rfl) | (rw [if_neg (by decide +kernel)]; exact ⟨rfl, rfl⟩))
    (fun os started H enc _ => lifted os started H enc)

/-- ████ THE STATEMENT ████ -/
theorem proved : Rows.BitsNamesSaid :=
  over
#print axioms proved
end Go.Proofs.Ytbmifejeffgobaa.bitsNames
