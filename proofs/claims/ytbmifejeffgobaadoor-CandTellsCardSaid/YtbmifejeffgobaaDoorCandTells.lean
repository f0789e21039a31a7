/- The statement CandTells, as a tied card: the lesser strings of any text, and how many there are, are the document's. Condition: the package variable cand.widths holds what the program's text lays, which the card ties. -/
import Derived.Test.YtbmifejeffgobaaDoorRows
import Derived.Test.YtbmifejeffgobaaDoorCards
import Derived.Test.YtbmifejeffgobaaDoorTie
import Derived.WalkKit
import Derived.ProofKit
import Derived.OpenShut
import Derived.ShutString
import Derived.Below
import Derived.LaidMore
import Derived.Stop.Joined
import Derived.SevenTiedAt
import Derived.Test.YtbmifejeffgobaaDoorCandI
namespace Go.Proofs.YtbmifejeffgobaaDoor.candTells
open Go.ChangeShapes Go.WideShapes Go.ChangeAt Go.RowKit
open Go.ChangeMaps (open_string shut_string)
open Go.Proofs
set_option linter.unusedVariables false
open Go.Proofs.CT
set_option linter.unusedSimpArgs false

theorem own : ownKnob Tryd.prog.godebug = none := by kernel_rfl
set_option maxHeartbeats 2000000 in
set_option maxRecDepth 100000 in
theorem walk (a0 : ByteArray) (w0 : a0.size ≤ maxLen) (w : World) (hw : CT.wide4 w) :
    Calls Tryd.prog 3 #[.string a0] w fun e w' => e = .returned (.bool true) ∧ Below w.heap.size w w' := by
  unfold maxLen at w0
  have K : Below w.heap.size w w := Below.refl _ _
  by_cases hl : 200 < a0.size
  · go_enter Tryd.func3, Tryd.ntmps3
    go_wp2_with fail
    refine (awake _ hw).mono ?_; rintro e w1 ⟨rfl, hb⟩
    replace K : Below w.heap.size w w1 := K.trans (hb.mono K.size)
    clear hb
    go_wp2_with fail
    go_ret
    exact ⟨rfl, K⟩
  · have hlen := cands_len a0 (by omega)
    obtain ⟨L, hL⟩ : ∃ L, L = cands a0 := ⟨_, rfl⟩
    obtain ⟨n, hn⟩ : ∃ n, n = L.length := ⟨_, rfl⟩
    have hn2 : n ≤ 5000 := by rw [hn, hL]; exact hlen
    have R1 := Lib.hid (fun (W : World) => ref_gives a0 (by omega) L (by omega) hL n hn W)
    have R2 := Lib.hid (fun (W : World) (hW : wide4 W) => told_gives a0 (by omega) L 5000 (by omega) (by omega) (by omega) (by rw [hL, List.take_of_length_le hlen]) n hn 5000 rfl W hW)
    have R3 := Lib.hid (fun (W : World) (hW : wide4 W) => count_any a0 (by omega) (by omega) W hW n (by rw [hn, hL]))
    clear hL hn hlen
    go_enter Tryd.func3, Tryd.ntmps3
    go_wp2_with fail
    refine (R1.out _).mono ?_; rintro e w1 ⟨a1, c1, rfl, S1, hb⟩
    replace K : Below w.heap.size w w1 := K.trans (hb.mono K.size)
    replace hw := hw.below hb
    clear hb
    go_wp2_with fail
    refine (R2.out _ hw).mono ?_; rintro e w2 ⟨a2, c2, rfl, S2, hb⟩
    replace K : Below w.heap.size w w2 := K.trans (hb.mono K.size)
    replace hw := hw.below hb
    replace S1 := S1.later hb
    clear hb
    go_wp2_with fail
    refine (same_below L L _ _ _ S2 S1 true (by simp)).mono ?_; rintro e w3 ⟨rfl, hb⟩
    replace K : Below w.heap.size w w3 := K.trans (hb.mono K.size)
    replace hw := hw.below hb
    clear hb S1 S2
    go_wp2_with fail
    refine (R3.out _ hw).mono ?_; rintro e w4 ⟨rfl, hb⟩
    replace K : Below w.heap.size w w4 := K.trans (hb.mono K.size)
    replace hw := hw.below hb
    clear hb
    go_wp2_with fail
    refine (awake _ hw).mono ?_; rintro e w5 ⟨rfl, hb⟩
    replace K : Below w.heap.size w w5 := K.trans (hb.mono K.size)
    clear hb
    go_wp2_with fail
    go_ret
    exact ⟨rfl, K⟩
abbrev laidL : List (String × DataW Unit) := Rows.candTellsRow.laid
theorem door_met (os : Os) (args : Array Value) : laidMetH Tryd.prog laidL ((World.doorLaid Tryd.prog 400 os).forCall (fun _ _ => 0) ⟨#[], args, []⟩).memory :=
  laidMetH_of_parts3 (fuel := 8) (laidMet_of_run' 8 (by kernel_rfl) (by kernel_rfl)) (by kernel_rfl) (by kernel_rfl)
set_option maxRecDepth 100000 in
theorem lifted (os : Os) (started : os.Started) (H : Type) (enc : TypeId × Value → H) :
    ReturnsInHanded {} Tryd.checked os 3 .any (fun w args => (Rows.candTellsSpec.pre enc Tryd.prog Tryd.f3 [] false w args ∧ laidMetH Tryd.prog laidL w) ∧ sizedMet enc Tryd.prog Tryd.f3 (OpenSpec.ofChange Rows.candTellsSpec) false w args)
      (Rows.candTellsSpec.post enc Tryd.prog Tryd.f3 false true false false) := by
  refine returnsInHanded_of_change_and (C := Tryd.checked) (X := fun w _ => laidMetH Tryd.prog laidL w) (fun _ _ _ hh h => h.of_heap hh) own started (by kernel_rfl) Tryd.func3
    (ChangeSpec.witness_shaped (enc := enc) (C := Tryd.checked) (os := os) (X := fun w _ => laidMetH Tryd.prog laidL w) false (World.doorLaid Tryd.prog 400 os) #[.string ByteArray.empty] 8 rfl (World.shaped_of_RefB (by kernel_rfl) (by kernel_rfl)) (by kernel_rfl) (by kernel_rfl) (by kernel_rfl) (door_met os _)) ?_
  intro W base args ds gs before hval0 hW _ _ hL _
  have hval : ∀ (j : Nat) t v, Tryd.f3.params[j]? = some t → args[j]? = some v → Value.okWide Tryd.prog W .any base t v := hval0
  have hW' := hW
  obtain ⟨p, q, hA0, hV, rfl, hfz, hnd⟩ := hW
  have hA : DataW.TrodAll enc Tryd.prog W 0 (fun _ => true) true Tryd.f3.params.toList args.toList ds p := hA0
  rw [Tryd.params3] at hA hval
  obtain ⟨v0, vs0, d0, ds0, p0, q0, hargs, rfl, rfl, h0, r0⟩ := trodAll_cons hA
  obtain ⟨rfl, rfl, rfl⟩ := trodAll_nil r0
  obtain rfl : args = #[v0] := by cases args; simp_all
  obtain ⟨rfl, rfl⟩ := trodVars_none hV
  obtain ⟨a0, rfl, rfl, rfl, w0⟩ := open_string Tryd.underlying9 (hval 0 9 v0 rfl rfl) h0
  clear hA0 hval0
  simp only [List.append_nil] at hW'
  refine (walk a0 w0 W (CT.of_laid hL)).mono fun e W' ⟨he, hg⟩ => ?_
  subst he
  exact ⟨_, rfl, _, _, _, [], [], [], hW', (trodAll_cons_mk (shut_bool Tryd.underlying4 _) trodAll_mk0), (trodAll_cons_mk (shut_string Tryd.underlying9 w0) trodAll_mk0), rfl, hg.frame _, fun h => by cases h⟩

theorem over : Rows.candTellsRow.holds Tryd.pinned (OpenSpec.ofChange Rows.candTellsSpec) :=
  OpenClaim.holds_of_wide 3 Tryd.f3 rfl rfl rfl rfl rfl rfl rfl ⟨rfl, rfl, rfl, rfl, rfl⟩ rfl rfl rfl rfl rfl (by kernel_rfl) Tryd.func3 (by kernel_rfl)
    (of_decide_eq_true (by kernel_rfl)) (by unfold Func.isWrapper; first | (rw [if_pos (by decide +kernel)]; kernel_rfl) | (rw [if_neg (by decide +kernel)]; exact ⟨rfl, rfl⟩))
    (fun os started H enc _ => lifted os started H enc)


/-- ████ THE CARD ████ -/
theorem proved : Rows.CandTellsCardSaid :=
  Claim7.holds_tied_plain_at .later [] [.data] true (true, "8063661ee9a3d3253c0a59e3d6b8a79ccc07b40d5ce3f1ed386fd7d7af5f8f23") false
    over (fun _ h => by cases h) (by kernel_rfl) (fun _ h => by cases h) candTells_row_tie rfl ⟨rfl, rfl⟩ (by kernel_rfl) rfl
    (fun f fn hf hfn => by
      obtain rfl : f = 3 := Option.some.inj ((show Tryd.prog.funcNamed "tombola/tombolalaw30.CandTells" = some 3 by kernel_rfl).symm.trans hf) |>.symm
      obtain rfl : fn = Tryd.f3 := (Option.some.inj (Tryd.func3.symm.trans hfn)).symm
      exact ⟨by kernel_rfl, fun j t ht => by
        rw [Tryd.params3] at ht
        have hm : t ∈ [9] := by have := Array.mem_of_getElem? ht; simp at this ⊢; omega
        have hall : ([9].all fun u => !Tryd.prog.wantsStandIn u) = true := by kernel_rfl
        exact (show Tryd.prog.wantsStandIn t = false by simpa using List.all_eq_true.1 hall t hm)⟩)
    (by kernel_rfl)
#print axioms proved
end Go.Proofs.YtbmifejeffgobaaDoor.candTells
