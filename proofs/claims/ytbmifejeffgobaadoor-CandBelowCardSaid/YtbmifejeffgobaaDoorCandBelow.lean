/- The statement CandBelow, as a tied card: if a string has a 1, the greatest string that is less is one of its lesser strings. Condition: the package variable cand.widths holds what the program's text lays, which the card ties. -/
import Derived.Test.YtbmifejeffgobaaDoorRows
import Derived.Test.YtbmifejeffgobaaDoorCards
import Derived.Test.YtbmifejeffgobaaDoorTie
import Derived.WalkKit
import Derived.ProofKit
import Derived.OpenShut
import Derived.ShutString
import Derived.Below
import Derived.LaidMore
import Derived.Stop.Joined
import Derived.SevenTiedAt
import Derived.Test.YtbmifejeffgobaaDoorCandL
namespace Go.Proofs.YtbmifejeffgobaaDoor.candBelow
open Go.ChangeShapes Go.WideShapes Go.ChangeAt Go.RowKit
open Go.ChangeMaps (open_string shut_string)
open Go.Proofs
set_option linter.unusedVariables false
open Go.Proofs.CT
set_option linter.unusedSimpArgs false

theorem own : ownKnob Tryd.prog.godebug = none := by kernel_rfl
set_option maxHeartbeats 4000000 in
set_option maxRecDepth 100000 in
theorem walk (a0 : ByteArray) (w0 : a0.size ≤ maxLen) (w : World) (hw : CT.wide4 w) :
    Calls Tryd.prog 8 #[.string a0] w fun e w' => e = .returned (.bool true) ∧ Below w.heap.size w w' := by
  unfold maxLen at w0
  have K : Below w.heap.size w w := Below.refl _ _
  by_cases hl : 300 < a0.size
  · go_enter Tryd.func8, Tryd.ntmps8
    go_wp2_with fail
    refine (awake _ hw).mono ?_; rintro e w1 ⟨rfl, hb⟩
    replace K : Below w.heap.size w w1 := K.trans (hb.mono K.size)
    clear hb
    go_wp2_with fail
    go_ret
    exact ⟨rfl, K⟩
  cases hib : BT.isB a0 with
  | false =>
    have I0 := Lib.hid (is_val a0 false hib (by omega))
    clear hib
    go_enter Tryd.func8, Tryd.ntmps8
    go_wp2_with fail
    refine (I0.out _).mono ?_; rintro e w1 ⟨rfl, hb⟩
    replace K : Below w.heap.size w w1 := K.trans (hb.mono K.size)
    replace hw := hw.below hb
    clear hb
    go_wp2_with fail
    refine (awake _ hw).mono ?_; rintro e w2 ⟨rfl, hb⟩
    replace K : Below w.heap.size w w2 := K.trans (hb.mono K.size)
    clear hb
    go_wp2_with fail
    go_ret
    exact ⟨rfl, K⟩
  | true =>
    have I0 := Lib.hid (is_val a0 true hib (by omega))
    have HIB := Lib.hid hib
    have hlen := cands_len a0 (by omega)
    obtain ⟨L, hL⟩ : ∃ L, L = cands a0 := ⟨_, rfl⟩
    obtain ⟨n, hn⟩ : ∃ n, n = L.length := ⟨_, rfl⟩
    have hn2 : n ≤ 5000 := by rw [hn, hL]; exact hlen
    have HL := Lib.hid hL
    have HN := Lib.hid hn
    have hsz : a0.size ≤ 300 := by omega
    have R2 := Lib.hid (fun (W : World) (hW : wide4 W) => told_gives a0 (by omega) L 5000 (by omega) (by omega) (by omega) (by rw [hL, List.take_of_length_le hlen]) n hn 5000 rfl W hW)
    clear hL hn hlen hib
    go_enter Tryd.func8, Tryd.ntmps8
    go_wp2_with fail
    refine (I0.out _).mono ?_; rintro e w1 ⟨rfl, hb⟩
    replace K : Below w.heap.size w w1 := K.trans (hb.mono K.size)
    replace hw := hw.below hb
    clear hb
    go_wp2_with fail
    refine (awake _ hw).mono ?_; rintro e w2 ⟨rfl, hb⟩
    replace K : Below w.heap.size w w2 := K.trans (hb.mono K.size)
    replace hw := hw.below hb
    clear hb
    go_wp2_with fail
    refine (R2.out _ hw).mono ?_; rintro e w3 ⟨a2, c2, rfl, S2, hb⟩
    replace K : Below w.heap.size w w3 := K.trans (hb.mono K.size)
    clear hb
    go_wp2_with fail
    go_loopw [3, 4, 6] (fun s3 s4 v wr => ∃ (i : Nat) (b : ByteArray) (z : Bool), s3 = .string b ∧ s4 = .bool z ∧ v = .int .i64 i ∧ i ≤ n ∧ b.size ≤ 300 ∧ Hid (z = decide (0 < i)) ∧ Hid (0 < i → Best L i b) ∧ Below w.heap.size w wr ∧ Reads wr (.slice a2 n c2) L) (fun _ _ v _ => n - (intOf v).toNat)
    case atStart => exact ⟨0, ⟨#[]⟩, false, rfl, rfl, rfl, by omega, by decide, rfl, fun h => absurd h (by omega), K, S2⟩
    case round =>
      clear K S2 hw
      obtain ⟨i, b, z, rfl, rfl, rfl, hi, hbs, HZ, HB, K, S2⟩ := hrel
      by_cases hlt : i < n
      · obtain ⟨x, ⟨bb, rfl, hc⟩, hx, hx2⟩ := S2.get HN.out hlt
        have hless := cands_less (u := a0) (x := x) (by rw [← HL.out]; exact hx)
        have hxs : x.size ≤ 300 := by have := hless.size; omega
        have HX2 := Lib.hid hx2
        clear hx hx2 hless
        by_cases h0 : i = 0
        · subst h0
          have e := Lib.hid (show z = false by rw [HZ.out]; rfl)
          have HB2 := Lib.hid (show 0 < 0 + 1 → Best L (0 + 1) x from fun _ => Best.first HX2.out)
          have hz : z = false := e.out
          subst hz
          clear HB HZ HX2 e
          go_wp2_with fail
          go_roundw
          case rel => exact ⟨1, x, true, rfl, rfl, rfl, by omega, hxs, rfl, HB2, K, S2⟩
          case measure => simp [intOf]; omega
        · have hz : z = true := by rw [HZ.out, decide_eq_true_eq]; omega
          subst hz
          have hbest := HB.out (by omega)
          rcases cmp_three b x with hcm | hcm
          · have C1 := Lib.hid (cmp_val b x (-1) hcm (by omega) (by omega))
            have HB2 := Lib.hid (show 0 < i + 1 → Best L (i + 1) x from fun _ => hbest.new HX2.out hcm)
            clear HB HZ HX2 hbest hcm
            go_wp2_with fail
            refine (C1.out _).mono ?_; rintro e w4 ⟨rfl, hb⟩
            replace K : Below w.heap.size w w4 := K.trans (hb.mono K.size)
            replace S2 := S2.later hb
            replace hc := cell_hold hc hb
            clear hb
            go_wp2_with fail
            go_roundw
            case rel => exact ⟨i + 1, x, true, rfl, rfl, by go_num, by omega, hxs, by simp [Hid], HB2, K, S2⟩
            case measure => simp [intOf]; omega
          · obtain ⟨q, hq⟩ : ∃ q, BT.cmpB b x = q := ⟨_, rfl⟩
            have C1 := Lib.hid (cmp_val b x q hq (by omega) (by omega))
            have hq0 : 0 ≤ q := by rw [← hq]; exact hcm
            have HB2 := Lib.hid (show 0 < i + 1 → Best L (i + 1) b from fun _ => hbest.keep HX2.out (by omega))
            have hq1 : ¬ q < 0 := by omega
            clear HB HZ HX2 hbest hcm hq
            go_wp2_with fail
            refine (C1.out _).mono ?_; rintro e w4 ⟨rfl, hb⟩
            replace K : Below w.heap.size w w4 := K.trans (hb.mono K.size)
            replace S2 := S2.later hb
            replace hc := cell_hold hc hb
            clear hb
            go_wp2_with fail
            go_roundw
            case rel => exact ⟨i + 1, b, true, rfl, rfl, by go_num, by omega, hbs, by simp [Hid], HB2, K, S2⟩
            case measure => simp [intOf]; omega
      · obtain rfl : i = n := by omega
        clear S2
        go_wp2_with fail
        go_loop [7, 8] (fun s7 v => ∃ (j : Nat) (o : Bool), s7 = .bool o ∧ v = .int .i64 j ∧ j ≤ a0.size ∧ Hid (o = decide (onesB a0 j ≠ 0))) (fun _ v => a0.size - (intOf v).toNat)
        case atStart => exact ⟨0, false, rfl, rfl, by omega, rfl⟩
        case round =>
          obtain ⟨j, o, rfl, rfl, hj, HO⟩ := hrel
          by_cases hlt2 : j < a0.size
          · have hoc2 : o = true ∨ o = false := by cases o <;> simp
            rcases hoc2 with hoc | hoc
            · have ho : o = true := hoc
              subst ho
              clear hoc
              by_cases h49 : a0[j] = 49
              · skip
                have h3 : ((a0[j].toNat : Nat) : Int) = 49 := by rw [h49]; rfl
                have HO2 := Lib.hid (show true = decide (onesB a0 (j + 1) ≠ 0) by
                  symm; rw [decide_eq_true_eq, onesB, dif_pos hlt2, if_pos h49]; have ho := HO.out; symm at ho; rw [decide_eq_true_eq] at ho; omega)
                clear HO h49
                go_wp2_with fail
                go_round
                case rel => exact ⟨j + 1, true, rfl, by go_num, by omega, HO2⟩
                case measure => simp [intOf]; omega
              · skip
                have h3 : ¬ ((a0[j].toNat : Nat) : Int) = 49 := fun h => h49 (UInt8.toNat_inj.1 (by have : (49 : UInt8).toNat = 49 := rfl; omega))
                have h4 : (((a0[j].toNat : Nat) : Int) == 49) = false := by simpa using h3
                have HO2 := Lib.hid (show true = decide (onesB a0 (j + 1) ≠ 0) by
                  symm; rw [decide_eq_true_eq, onesB, dif_pos hlt2, if_neg h49]; have ho := HO.out; symm at ho; rw [decide_eq_true_eq] at ho; omega)
                clear HO h49
                go_wp2_with fail
                go_round
                case rel => exact ⟨j + 1, true, rfl, by go_num, by omega, HO2⟩
                case measure => simp [intOf]; omega
            · have ho : o = false := hoc
              subst ho
              clear hoc
              by_cases h49 : a0[j] = 49
              · skip
                have h3 : ((a0[j].toNat : Nat) : Int) = 49 := by rw [h49]; rfl
                have HO2 := Lib.hid (show true = decide (onesB a0 (j + 1) ≠ 0) by
                  symm; rw [decide_eq_true_eq, onesB, dif_pos hlt2, if_pos h49]; have ho := HO.out; symm at ho; rw [decide_eq_false_iff_not] at ho; omega)
                clear HO h49
                go_wp2_with fail
                go_round
                case rel => exact ⟨j + 1, true, rfl, by go_num, by omega, HO2⟩
                case measure => simp [intOf]; omega
              · skip
                have h3 : ¬ ((a0[j].toNat : Nat) : Int) = 49 := fun h => h49 (UInt8.toNat_inj.1 (by have : (49 : UInt8).toNat = 49 := rfl; omega))
                have h4 : (((a0[j].toNat : Nat) : Int) == 49) = false := by simpa using h3
                have HO2 := Lib.hid (show false = decide (onesB a0 (j + 1) ≠ 0) by
                  symm; rw [decide_eq_false_iff_not, onesB, dif_pos hlt2, if_neg h49]; have ho := HO.out; symm at ho; rw [decide_eq_false_iff_not] at ho; omega)
                clear HO h49
                go_wp2_with fail
                go_round
                case rel => exact ⟨j + 1, false, rfl, by go_num, by omega, HO2⟩
                case measure => simp [intOf]; omega
          · obtain rfl : j = a0.size := by omega
            have hBn : 0 < i → Best L i b := HB.out
            have hLt : L.take i = L := List.take_of_length_le (by rw [← HN.out]; exact Nat.le_refl _)
            by_cases ho : onesB a0 a0.size = 0
            · have hoz : o = false := by rw [HO.out]; simp [ho]
              subst hoz
              have hno := fun j (h : j < a0.size) => ones_none ho (Nat.le_refl _) j h h
              by_cases hi0 : i = 0
              · have hz : z = false := by rw [HZ.out, decide_eq_false_iff_not]; omega
                subst hz
                clear HB HZ HO hBn hLt ho hno hi0
                go_wp2_with fail
                go_ret
                exact ⟨rfl, K⟩
              · have hz : z = true := by rw [HZ.out, decide_eq_true_eq]; omega
                subst hz
                have hb := hBn (by omega)
                have hmem : b ∈ cands a0 := by have := mem_take hb.mem; rw [HL.out] at this; exact this
                have h1 := cands_zero HIB.out hno hmem
                have h2 : a0.size - 1 ≤ b.size := by
                  have hc := cut_in HIB.out (k := 0) (by omega)
                  have hs := hb.size (BT.cutB a0 0 1) (by rw [hLt, HL.out]; exact hc)
                  have : (BT.cutB a0 0 1).size = a0.size - 1 := by
                    rw [← bl_size, bl_cut, List.length_append, List.length_take, List.length_drop, bl_size]; omega
                  omega
                have h3 : (((b.size : Nat) : Int) == (a0.size : Int) - 1) = true := by rw [beq_iff_eq]; omega
                have h4 : ((b.size : Nat) : Int) = (a0.size : Int) - 1 := by omega
                clear HB HZ HO hBn hLt ho hno hi0 hb hmem h1 h2
                go_wp2_with fail
                go_ret
                first
                  | exact ⟨rfl, K⟩
                  | exact ⟨by simp [h4], K⟩
            · have hoz : o = true := by rw [HO.out]; simp [ho]
              subst hoz
              obtain ⟨k, hk, _, h49, hkz⟩ := last_one a0 a0.size (Nat.le_refl _) ho
              have hkz' := fun j (h : j < a0.size) (h2 : k < j) => hkz j h h2 h
              obtain ⟨hpm, hpt⟩ := cands_pred HIB.out hk h49 hkz'
              rw [← HL.out] at hpm hpt
              have hi0 : 0 < i := by
                rcases Nat.eq_zero_or_pos i with h | h
                · have : L = [] := List.eq_nil_of_length_eq_zero (by rw [← HN.out]; exact h)
                  rw [this] at hpm; simp at hpm
                · exact h
              have hz : z = true := by rw [HZ.out, decide_eq_true_eq]; exact hi0
              subst hz
              have hbp := (hBn hi0).top _ hpt (by rw [hLt]; exact hpm)
              have NX := Lib.hid (show BT.Ret 18 #[.string b] (.tuple #[.string a0, .bool true]) by rw [hbp]; exact next_pred HIB.out hk h49 hkz')
              clear HB HZ HO hBn hLt ho hpm hpt hbp hkz hkz' h49
              go_wp2_with fail
              refine (NX.out _).mono ?_; rintro e w4 ⟨rfl, hb⟩
              replace K : Below w.heap.size w w4 := K.trans (hb.mono K.size)
              clear hb
              go_wp2_with fail
              go_ret
              exact ⟨rfl, K⟩
abbrev laidL : List (String × DataW Unit) := Rows.candBelowRow.laid
theorem door_met (os : Os) (args : Array Value) : laidMetH Tryd.prog laidL ((World.doorLaid Tryd.prog 400 os).forCall (fun _ _ => 0) ⟨#[], args, []⟩).memory :=
  laidMetH_of_parts3 (fuel := 8) (laidMet_of_run' 8 (by kernel_rfl) (by kernel_rfl)) (by kernel_rfl) (by kernel_rfl)
set_option maxRecDepth 100000 in
theorem lifted (os : Os) (started : os.Started) (H : Type) (enc : TypeId × Value → H) :
    ReturnsInHanded {} Tryd.checked os 8 .any (fun w args => (Rows.candBelowSpec.pre enc Tryd.prog Tryd.f8 [] false w args ∧ laidMetH Tryd.prog laidL w) ∧ sizedMet enc Tryd.prog Tryd.f8 (OpenSpec.ofChange Rows.candBelowSpec) false w args)
      (Rows.candBelowSpec.post enc Tryd.prog Tryd.f8 false true false false) := by
  refine returnsInHanded_of_change_and (C := Tryd.checked) (X := fun w _ => laidMetH Tryd.prog laidL w) (fun _ _ _ hh h => h.of_heap hh) own started (by kernel_rfl) Tryd.func8
    (ChangeSpec.witness_shaped (enc := enc) (C := Tryd.checked) (os := os) (X := fun w _ => laidMetH Tryd.prog laidL w) false (World.doorLaid Tryd.prog 400 os) #[.string ByteArray.empty] 8 rfl (World.shaped_of_RefB (by kernel_rfl) (by kernel_rfl)) (by kernel_rfl) (by kernel_rfl) (by kernel_rfl) (door_met os _)) ?_
  intro W base args ds gs before hval0 hW _ _ hL _
  have hval : ∀ (j : Nat) t v, Tryd.f8.params[j]? = some t → args[j]? = some v → Value.okWide Tryd.prog W .any base t v := hval0
  have hW' := hW
  obtain ⟨p, q, hA0, hV, rfl, hfz, hnd⟩ := hW
  have hA : DataW.TrodAll enc Tryd.prog W 0 (fun _ => true) true Tryd.f8.params.toList args.toList ds p := hA0
  rw [Tryd.params8] at hA hval
  obtain ⟨v0, vs0, d0, ds0, p0, q0, hargs, rfl, rfl, h0, r0⟩ := trodAll_cons hA
  obtain ⟨rfl, rfl, rfl⟩ := trodAll_nil r0
  obtain rfl : args = #[v0] := by cases args; simp_all
  obtain ⟨rfl, rfl⟩ := trodVars_none hV
  obtain ⟨a0, rfl, rfl, rfl, w0⟩ := open_string Tryd.underlying9 (hval 0 9 v0 rfl rfl) h0
  clear hA0 hval0
  simp only [List.append_nil] at hW'
  refine (walk a0 w0 W (CT.of_laid hL)).mono fun e W' ⟨he, hg⟩ => ?_
  subst he
  exact ⟨_, rfl, _, _, _, [], [], [], hW', (trodAll_cons_mk (shut_bool Tryd.underlying4 _) trodAll_mk0), (trodAll_cons_mk (shut_string Tryd.underlying9 w0) trodAll_mk0), rfl, hg.frame _, fun h => by cases h⟩

theorem over : Rows.candBelowRow.holds Tryd.pinned (OpenSpec.ofChange Rows.candBelowSpec) :=
  OpenClaim.holds_of_wide 8 Tryd.f8 rfl rfl rfl rfl rfl rfl rfl ⟨rfl, rfl, rfl, rfl, rfl⟩ rfl rfl rfl rfl rfl (by kernel_rfl) Tryd.func8 (by kernel_rfl)
    (of_decide_eq_true (by kernel_rfl)) (by unfold Func.isWrapper; first | (rw [if_pos (by decide +kernel)]; kernel_rfl) | (rw [if_neg (by decide +kernel)]; exact ⟨rfl, rfl⟩))
    (fun os started H enc _ => lifted os started H enc)


/-- ████ THE CARD ████ -/
theorem proved : Rows.CandBelowCardSaid :=
  Claim7.holds_tied_plain_at .later [] [.data] true (true, "8063661ee9a3d3253c0a59e3d6b8a79ccc07b40d5ce3f1ed386fd7d7af5f8f23") false
    over (fun _ h => by cases h) (by kernel_rfl) (fun _ h => by cases h) candBelow_row_tie rfl ⟨rfl, rfl⟩ (by kernel_rfl) rfl
    (fun f fn hf hfn => by
      obtain rfl : f = 8 := Option.some.inj ((show Tryd.prog.funcNamed "tombola/tombolalaw30.CandBelow" = some 8 by kernel_rfl).symm.trans hf) |>.symm
      obtain rfl : fn = Tryd.f8 := (Option.some.inj (Tryd.func8.symm.trans hfn)).symm
      exact ⟨by kernel_rfl, fun j t ht => by
        rw [Tryd.params8] at ht
        have hm : t ∈ [9] := by have := Array.mem_of_getElem? ht; simp at this ⊢; omega
        have hall : ([9].all fun u => !Tryd.prog.wantsStandIn u) = true := by kernel_rfl
        exact (show Tryd.prog.wantsStandIn t = false by simpa using List.all_eq_true.1 hall t hm)⟩)
    (by kernel_rfl)
#print axioms proved
end Go.Proofs.YtbmifejeffgobaaDoor.candBelow
