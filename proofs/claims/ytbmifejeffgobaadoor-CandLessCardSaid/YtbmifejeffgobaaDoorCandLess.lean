/- The statement CandLess, as a tied card: each lesser string is a string of bits that is less than u by shortlex; there are at most 8 times as many as u has bits, and as many as it has 1s. Condition: the package variable cand.widths holds what the program's text lays, which the card ties. -/
import Derived.Test.YtbmifejeffgobaaDoorRows
import Derived.Test.YtbmifejeffgobaaDoorCards
import Derived.Test.YtbmifejeffgobaaDoorTie
import Derived.WalkKit
import Derived.ProofKit
import Derived.OpenShut
import Derived.ShutString
import Derived.Below
import Derived.LaidMore
import Derived.Stop.Joined
import Derived.SevenTiedAt
import Derived.Test.YtbmifejeffgobaaDoorCandJ
namespace Go.Proofs.YtbmifejeffgobaaDoor.candLess
open Go.ChangeShapes Go.WideShapes Go.ChangeAt Go.RowKit
open Go.ChangeMaps (open_string shut_string)
open Go.Proofs
set_option linter.unusedVariables false
open Go.Proofs.CT
set_option linter.unusedSimpArgs false

theorem own : ownKnob Tryd.prog.godebug = none := by kernel_rfl
set_option maxHeartbeats 4000000 in
set_option maxRecDepth 100000 in
theorem walk (a0 : ByteArray) (w0 : a0.size ≤ maxLen) (w : World) (hw : CT.wide4 w) :
    Calls Tryd.prog 7 #[.string a0] w fun e w' => e = .returned (.bool true) ∧ Below w.heap.size w w' := by
  unfold maxLen at w0
  have K : Below w.heap.size w w := Below.refl _ _
  by_cases hl : 300 < a0.size
  · go_enter Tryd.func7, Tryd.ntmps7
    go_wp2_with fail
    refine (awake _ hw).mono ?_; rintro e w1 ⟨rfl, hb⟩
    replace K : Below w.heap.size w w1 := K.trans (hb.mono K.size)
    clear hb
    go_wp2_with fail
    go_ret
    exact ⟨rfl, K⟩
  · have hlen := cands_len a0 (by omega)
    obtain ⟨L, hL⟩ : ∃ L, L = cands a0 := ⟨_, rfl⟩
    obtain ⟨n, hn⟩ : ∃ n, n = L.length := ⟨_, rfl⟩
    have hn2 : n ≤ 5000 := by rw [hn, hL]; exact hlen
    have HL := Lib.hid hL
    have HN := Lib.hid hn
    have R2 := Lib.hid (fun (W : World) (hW : wide4 W) => told_gives a0 (by omega) L 5000 (by omega) (by omega) (by omega) (by rw [hL, List.take_of_length_le hlen]) n hn 5000 rfl W hW)
    have R3 := Lib.hid (fun (W : World) (hW : wide4 W) => count_any a0 (by omega) (by omega) W hW n (by rw [hn, hL]))
    clear hL hn hlen
    go_enter Tryd.func7, Tryd.ntmps7
    go_wp2_with fail
    refine (awake _ hw).mono ?_; rintro e w1 ⟨rfl, hb⟩
    replace K : Below w.heap.size w w1 := K.trans (hb.mono K.size)
    replace hw := hw.below hb
    clear hb
    go_wp2_with fail
    refine (R2.out _ hw).mono ?_; rintro e w2 ⟨a2, c2, rfl, S2, hb⟩
    replace K : Below w.heap.size w w2 := K.trans (hb.mono K.size)
    replace hw := hw.below hb
    clear hb
    go_wp2_with fail
    go_loop [4, 5] (fun s4 s5 => ∃ i q : Nat, s4 = .int .i64 q ∧ s5 = .int .i64 i ∧ i ≤ a0.size ∧ q ≤ i ∧ Hid (q = onesB a0 i)) (fun _ v => a0.size - (intOf v).toNat)
    case atStart => exact ⟨0, 0, rfl, rfl, by omega, by omega, rfl⟩
    case round =>
      obtain ⟨i, q, rfl, rfl, hi, hq, HQ⟩ := hrel
      by_cases hlt : i < a0.size
      · by_cases h49 : a0[i] = 49
        · have h3 : ((a0[i].toNat : Nat) : Int) = 49 := by rw [h49]; rfl
          have HQ2 := Lib.hid (show q + 1 = onesB a0 (i + 1) by rw [onesB, dif_pos hlt, if_pos h49, ← HQ.out])
          clear HQ h49
          go_wp2_with fail
          go_round
          case rel => exact ⟨i + 1, q + 1, by go_num, by go_num, by omega, by omega, HQ2⟩
          case measure => simp [intOf]; omega
        · have h3 : ¬ ((a0[i].toNat : Nat) : Int) = 49 := fun h => h49 (UInt8.toNat_inj.1 (by have : (49 : UInt8).toNat = 49 := rfl; omega))
          have h4 : (((a0[i].toNat : Nat) : Int) == 49) = false := by simpa using h3
          have HQ2 := Lib.hid (show q = onesB a0 (i + 1) by rw [onesB, dif_pos hlt, if_neg h49, Nat.add_zero, ← HQ.out])
          clear HQ h49
          go_wp2_with fail
          go_round
          case rel => exact ⟨i + 1, q, rfl, by go_num, by omega, by omega, HQ2⟩
          case measure => simp [intOf]; omega
      · obtain rfl : i = a0.size := by omega
        have hmany : n ≤ 8 * a0.size + q := by
          have := cands_many a0
          rw [HN.out, HL.out, HQ.out]; exact this
        clear HQ
        go_wp2_with fail
        go_loopw [6] (fun v wr => ∃ i : Nat, v = .int .i64 i ∧ i ≤ n ∧ Below w.heap.size w wr ∧ wide4 wr ∧ Reads wr (.slice a2 n c2) L) (fun v _ => n - (intOf v).toNat)
        case atStart => exact ⟨0, rfl, by omega, K, hw, S2⟩
        case round =>
          clear K hw S2
          obtain ⟨i, rfl, hi, K, hw, S2⟩ := hrel
          by_cases hlt : i < n
          · obtain ⟨x, ⟨bb, rfl, hc⟩, hx, -⟩ := S2.get HN.out hlt
            have hless := cands_less (u := a0) (x := x) (by rw [← HL.out]; exact hx)
            have I1 := Lib.hid (is_val x true hless.is (by have := hless.size; omega))
            have C1 := Lib.hid (cmp_val x a0 (-1) hless.cmp (by have := hless.size; omega) (by omega))
            have hxs := hless.size
            clear hx hless
            go_wp2_with fail
            refine (I1.out _).mono ?_; rintro e w3 ⟨rfl, hb⟩
            replace K : Below w.heap.size w w3 := K.trans (hb.mono K.size)
            replace hw := hw.below hb
            replace S2 := S2.later hb
            replace hc := cell_hold hc hb
            clear hb
            go_wp2_with fail
            refine (C1.out _).mono ?_; rintro e w4 ⟨rfl, hb⟩
            replace K : Below w.heap.size w w4 := K.trans (hb.mono K.size)
            replace hw := hw.below hb
            replace S2 := S2.later hb
            replace hc := cell_hold hc hb
            clear hb
            go_wp2_with fail
            go_roundw
            case rel => exact ⟨i + 1, by go_num, by omega, K, hw, S2⟩
            case measure => simp [intOf]; omega
          · obtain rfl : i = n := by omega
            have hsome := cands_some a0
            rw [← HL.out] at hsome
            cases hib : BT.isB a0 with
            | false =>
              have I0 := Lib.hid (is_val a0 false hib (by omega))
              have h0 : i = 0 := by
                rcases Nat.eq_zero_or_pos i with h | h
                · exact h
                · have : L ≠ [] := by intro e; rw [HN.out, e] at h; simp at h
                  have := hsome.1 this
                  rw [hib] at this; simp at this
              subst h0
              clear hsome hib
              go_wp2_with fail
              refine (R3.out _ hw).mono ?_; rintro e w3 ⟨rfl, hb⟩
              replace K : Below w.heap.size w w3 := K.trans (hb.mono K.size)
              clear hb
              go_wp2_with fail
              refine (I0.out _).mono ?_; rintro e w4 ⟨rfl, hb⟩
              replace K : Below w.heap.size w w4 := K.trans (hb.mono K.size)
              clear hb
              go_wp2_with fail
              go_ret
              exact ⟨rfl, K⟩
            | true =>
              have I0 := Lib.hid (is_val a0 true hib (by omega))
              by_cases hz : a0.size = 0
              · have h0 : i = 0 := by
                  rcases Nat.eq_zero_or_pos i with h | h
                  · exact h
                  · have : L ≠ [] := by intro e; rw [HN.out, e] at h; simp at h
                    have := hsome.1 this
                    omega
                subst h0
                have hz2 : a0.size ≤ 0 := by omega
                have hz3 : decide (0 < a0.size) = false := by rw [decide_eq_false_iff_not]; omega
                clear hsome hib hz
                go_wp2_with fail
                refine (R3.out _ hw).mono ?_; rintro e w3 ⟨rfl, hb⟩
                replace K : Below w.heap.size w w3 := K.trans (hb.mono K.size)
                clear hb
                go_wp2_with fail
                refine (I0.out _).mono ?_; rintro e w4 ⟨rfl, hb⟩
                replace K : Below w.heap.size w w4 := K.trans (hb.mono K.size)
                clear hb
                go_wp2_with fail
                go_ret
                exact ⟨rfl, K⟩
              · have h0 : 0 < i := by
                  rcases Nat.eq_zero_or_pos i with h | h
                  · exact absurd (List.eq_nil_of_length_eq_zero (by rw [← HN.out]; exact h)) (hsome.2 ⟨hib, by omega⟩)
                  · exact h
                have hz2 : 0 < a0.size := by omega
                clear hsome hib hz
                go_wp2_with fail
                refine (R3.out _ hw).mono ?_; rintro e w3 ⟨rfl, hb⟩
                replace K : Below w.heap.size w w3 := K.trans (hb.mono K.size)
                clear hb
                go_wp2_with fail
                refine (I0.out _).mono ?_; rintro e w4 ⟨rfl, hb⟩
                replace K : Below w.heap.size w w4 := K.trans (hb.mono K.size)
                clear hb
                go_wp2_with fail
                go_ret
                exact ⟨rfl, K⟩
abbrev laidL : List (String × DataW Unit) := Rows.candLessRow.laid
theorem door_met (os : Os) (args : Array Value) : laidMetH Tryd.prog laidL ((World.doorLaid Tryd.prog 400 os).forCall (fun _ _ => 0) ⟨#[], args, []⟩).memory :=
  laidMetH_of_parts3 (fuel := 8) (laidMet_of_run' 8 (by kernel_rfl) (by kernel_rfl)) (by kernel_rfl) (by kernel_rfl)
set_option maxRecDepth 100000 in
theorem lifted (os : Os) (started : os.Started) (H : Type) (enc : TypeId × Value → H) :
    ReturnsInHanded {} Tryd.checked os 7 .any (fun w args => (Rows.candLessSpec.pre enc Tryd.prog Tryd.f7 [] false w args ∧ laidMetH Tryd.prog laidL w) ∧ sizedMet enc Tryd.prog Tryd.f7 (OpenSpec.ofChange Rows.candLessSpec) false w args)
      (Rows.candLessSpec.post enc Tryd.prog Tryd.f7 false true false false) := by
  refine returnsInHanded_of_change_and (C := Tryd.checked) (X := fun w _ => laidMetH Tryd.prog laidL w) (fun _ _ _ hh h => h.of_heap hh) own started (by kernel_rfl) Tryd.func7
    (ChangeSpec.witness_shaped (enc := enc) (C := Tryd.checked) (os := os) (X := fun w _ => laidMetH Tryd.prog laidL w) false (World.doorLaid Tryd.prog 400 os) #[.string ByteArray.empty] 8 rfl (World.shaped_of_RefB (by kernel_rfl) (by kernel_rfl)) (by kernel_rfl) (by kernel_rfl) (by kernel_rfl) (door_met os _)) ?_
  intro W base args ds gs before hval0 hW _ _ hL _
  have hval : ∀ (j : Nat) t v, Tryd.f7.params[j]? = some t → args[j]? = some v → Value.okWide Tryd.prog W .any base t v := hval0
  have hW' := hW
  obtain ⟨p, q, hA0, hV, rfl, hfz, hnd⟩ := hW
  have hA : DataW.TrodAll enc Tryd.prog W 0 (fun _ => true) true Tryd.f7.params.toList args.toList ds p := hA0
  rw [Tryd.params7] at hA hval
  obtain ⟨v0, vs0, d0, ds0, p0, q0, hargs, rfl, rfl, h0, r0⟩ := trodAll_cons hA
  obtain ⟨rfl, rfl, rfl⟩ := trodAll_nil r0
  obtain rfl : args = #[v0] := by cases args; simp_all
  obtain ⟨rfl, rfl⟩ := trodVars_none hV
  obtain ⟨a0, rfl, rfl, rfl, w0⟩ := open_string Tryd.underlying9 (hval 0 9 v0 rfl rfl) h0
  clear hA0 hval0
  simp only [List.append_nil] at hW'
  refine (walk a0 w0 W (CT.of_laid hL)).mono fun e W' ⟨he, hg⟩ => ?_
  subst he
  exact ⟨_, rfl, _, _, _, [], [], [], hW', (trodAll_cons_mk (shut_bool Tryd.underlying4 _) trodAll_mk0), (trodAll_cons_mk (shut_string Tryd.underlying9 w0) trodAll_mk0), rfl, hg.frame _, fun h => by cases h⟩

theorem over : Rows.candLessRow.holds Tryd.pinned (OpenSpec.ofChange Rows.candLessSpec) :=
  OpenClaim.holds_of_wide 7 Tryd.f7 rfl rfl rfl rfl rfl rfl rfl ⟨rfl, rfl, rfl, rfl, rfl⟩ rfl rfl rfl rfl rfl (by kernel_rfl) Tryd.func7 (by kernel_rfl)
    (of_decide_eq_true (by kernel_rfl)) (by unfold Func.isWrapper; first | (rw [if_pos (by decide +kernel)]; kernel_rfl) | (rw [if_neg (by decide +kernel)]; exact ⟨rfl, rfl⟩))
    (fun os started H enc _ => lifted os started H enc)


/-- ████ THE CARD ████ -/
theorem proved : Rows.CandLessCardSaid :=
  Claim7.holds_tied_plain_at .later [] [.data] true (true, "8063661ee9a3d3253c0a59e3d6b8a79ccc07b40d5ce3f1ed386fd7d7af5f8f23") false
    over (fun _ h => by cases h) (by kernel_rfl) (fun _ h => by cases h) candLess_row_tie rfl ⟨rfl, rfl⟩ (by kernel_rfl) rfl
    (fun f fn hf hfn => by
      obtain rfl : f = 7 := Option.some.inj ((show Tryd.prog.funcNamed "tombola/tombolalaw30.CandLess" = some 7 by kernel_rfl).symm.trans hf) |>.symm
      obtain rfl : fn = Tryd.f7 := (Option.some.inj (Tryd.func7.symm.trans hfn)).symm
      exact ⟨by kernel_rfl, fun j t ht => by
        rw [Tryd.params7] at ht
        have hm : t ∈ [9] := by have := Array.mem_of_getElem? ht; simp at this ⊢; omega
        have hall : ([9].all fun u => !Tryd.prog.wantsStandIn u) = true := by kernel_rfl
        exact (show Tryd.prog.wantsStandIn t = false by simpa using List.all_eq_true.1 hall t hm)⟩)
    (by kernel_rfl)
#print axioms proved
end Go.Proofs.YtbmifejeffgobaaDoor.candLess
