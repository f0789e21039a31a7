/- The statement CandNames, as a tied card: the examples; blocks of eight; what is no string of bits. Condition: the package variable cand.widths holds what the program's text lays, which the card ties. -/
import Derived.Test.YtbmifejeffgobaaDoorRows
import Derived.Test.YtbmifejeffgobaaDoorCards
import Derived.Test.YtbmifejeffgobaaDoorTie
import Derived.WalkKit
import Derived.ProofKit
import Derived.OpenShut
import Derived.ShutString
import Derived.Below
import Derived.LaidMore
import Derived.Stop.Joined
import Derived.SevenTiedAt
import Derived.Test.YtbmifejeffgobaaDoorCandM
namespace Go.Proofs.YtbmifejeffgobaaDoor.candNames
open Go.ChangeShapes Go.WideShapes Go.ChangeAt Go.RowKit
open Go.ChangeMaps (open_string shut_string)
open Go.Proofs
set_option linter.unusedVariables false
open Go.Proofs.CT
set_option linter.unusedSimpArgs false
def ManyAt (G : Nat) (W : World) : Prop := G < W.heap.size ∧ ∀ j, j < 1025 → W.cell? ⟨G, j, none⟩ = some (.int .u8 48)
theorem ManyAt.below {G : Nat} {W W' : World} (h : ManyAt G W) (k : Below W.heap.size W W') : ManyAt G W' :=
  ⟨Nat.lt_of_lt_of_le h.1 k.size, fun j hj => by rw [k.cell (p := ⟨G, j, none⟩) h.1]; exact h.2 j hj⟩
theorem ManyAt.whole {G : Nat} {W : World} (h : ManyAt G W) : (convert 29 9 (.slice (some ⟨G, 0, none⟩) 1025 1025)).run Tryd.prog W = .ok (.string (BT.rep 48 1025)) W := by
  have := run_convert_bytes_back (P := Tryd.prog) W 29 9 5 ⟨G, 0, none⟩ 1025 (List.replicate 1025 48) Tryd.underlying29 Tryd.underlying5 Tryd.underlying9 (fun j hj => by
    rw [List.length_replicate] at hj
    rw [List.getElem_replicate]
    have := h.2 j hj
    rw [show (⟨G, 0, none⟩ : Addr).add j = ⟨G, j, none⟩ by simp [Addr.add]; omega]; exact this)
  rw [List.length_replicate] at this
  exact this
theorem ManyAt.tail {G : Nat} {W : World} (h : ManyAt G W) : (convert 29 9 (.slice (some ⟨G, 1, none⟩) 1024 1024)).run Tryd.prog W = .ok (.string (BT.rep 48 1024)) W := by
  have := run_convert_bytes_back (P := Tryd.prog) W 29 9 5 ⟨G, 1, none⟩ 1024 (List.replicate 1024 48) Tryd.underlying29 Tryd.underlying5 Tryd.underlying9 (fun j hj => by
    rw [List.length_replicate] at hj
    rw [List.getElem_replicate]
    have := h.2 (1 + j) (by omega)
    rw [show (⟨G, 1, none⟩ : Addr).add j = ⟨G, 1 + j, none⟩ by simp [Addr.add]]; exact this)
  rw [List.length_replicate] at this
  exact this
theorem wide4_set {W : World} {G i : Nat} {v : Value} (h : wide4 W) (hG : 0 < G) : wide4 (W.setCell ⟨G, i, none⟩ v) := by
  have e : ∀ k, (W.setCell ⟨G, i, none⟩ v).cell? ⟨0, k, none⟩ = W.cell? ⟨0, k, none⟩ := fun k => World.cell?_of_block (w := W) (Below.heap_setCell W ⟨G, i, none⟩ v 0 (by show 0 ≠ G; omega))
  obtain ⟨h0, h1, h2, h3⟩ := h
  exact ⟨by rw [e]; exact h0, by rw [e]; exact h1, by rw [e]; exact h2, by rw [e]; exact h3⟩
def FiveAt (N : Nat) (W : World) : Prop := N < W.heap.size ∧ ∀ j, j < 5 → W.cell? ⟨N, j, none⟩ = some (.string (badS j))
theorem FiveAt.below {N : Nat} {W W' : World} (h : FiveAt N W) (k : Below W.heap.size W W') : FiveAt N W' :=
  ⟨Nat.lt_of_lt_of_le h.1 k.size, fun j hj => by rw [k.cell (p := ⟨N, j, none⟩) h.1]; exact h.2 j hj⟩
theorem FiveAt.laid (W : World) : FiveAt W.heap.size (W.alloc (.cells #[.string ⟨#[50]⟩, .string ⟨#[48, 49, 120]⟩, .string ⟨#[32]⟩, .string ⟨#[48, 32, 49]⟩, .string (BT.rep 48 1025)] 9)) := by
  refine ⟨by show W.heap.size < (W.heap.push _).size; rw [Array.size_push]; omega, fun j hj => ?_⟩
  rw [World.cell?, show (W.alloc (.cells #[.string ⟨#[50]⟩, .string ⟨#[48, 49, 120]⟩, .string ⟨#[32]⟩, .string ⟨#[48, 32, 49]⟩, .string (BT.rep 48 1025)] 9)).heap = W.heap.push (.cells #[.string ⟨#[50]⟩, .string ⟨#[48, 49, 120]⟩, .string ⟨#[32]⟩, .string ⟨#[48, 32, 49]⟩, .string (BT.rep 48 1025)] 9) from rfl]
  match j, hj with
  | 0, _ => simp [badS]
  | 1, _ => simp [badS]
  | 2, _ => simp [badS]
  | 3, _ => simp [badS]
  | 4, _ => simp [badS]
theorem alloc_below (B : Nat) (W : World) (o : Obj) : Below W.heap.size W (W.alloc o) := Below.alloc (Below.refl _ _) (Nat.le_refl _) _

theorem own : ownKnob Tryd.prog.godebug = none := by kernel_rfl
set_option maxHeartbeats 8000000 in
set_option maxRecDepth 100000 in
theorem walk  (w : World) (hw : CT.wide4 w) :
    Calls Tryd.prog 4 #[] w fun e w' => e = .returned (.bool true) ∧ Below w.heap.size w w' := by
  have K : Below w.heap.size w w := Below.refl _ _
  have R2 := Lib.hid (fun (W : World) (hW : wide4 W) => told_gives nine (by decide) (cands nine) 999 (by omega) (by omega) (by rw [nine_len]; decide) (by rw [List.take_of_length_le (by rw [nine_len]; decide)]) 39 (by rw [nine_len]) 999 rfl W hW)
  go_enter Tryd.func4, Tryd.ntmps4
  go_wp2_with fail
  refine (awake _ hw).mono ?_; rintro e w1 ⟨rfl, hb⟩
  replace K : Below w.heap.size w w1 := K.trans (hb.mono K.size)
  replace hw := hw.below hb
  clear hb
  go_wp2_with fail
  refine (R2.out _ hw).mono ?_; rintro e w2 ⟨a2, c2, rfl, S2, hb⟩
  replace K : Below w.heap.size w w2 := K.trans (hb.mono K.size)
  replace hw := hw.below hb
  clear hb
  obtain ⟨bb, rfl, g0, g1, g2, g24, g25, g26, g36, g37, g38⟩ := nine_cells S2
  obtain ⟨i0, hi, hz0, hz1, hz2⟩ := info_parts Tryd.info5
  obtain ⟨wm, hmk, hown0, hgr0⟩ := run_make_full (P := Tryd.prog) w2 w2.heap.size 29 5 i0 (.int .u8 0) 1 Tryd.underlying29 hi hz0 hz1 .i64 .i64 1025 (by rw [hz2]; omega) (by unfold maxLen; omega) (Nat.le_refl _)
  rw [Nat.mul_one, show (Value.int .u8 0).cells = #[Value.int .u8 0] from rfl, toList_madeCells_one] at hown0
  have hb0 : Below w2.heap.size w2 wm := (Below.refl _ _).grown hgr0 (Nat.le_refl _) (fun k hk => by cases hk)
  obtain ⟨G, hG⟩ : ∃ G, w2.heap.size = G := ⟨_, rfl⟩
  have hGw : w.heap.size ≤ G := by rw [← hG]; exact K.size
  have Km : Below w.heap.size w wm := K.trans (hb0.mono K.size)
  have hwm := hw.below hb0
  rw [hG] at hown0 hmk
  have HM := Lib.hid (show (Instr.makeSlice 29 (.int .i64 1025) (.int .i64 1025)).run Tryd.prog w2 = .ok (.slice (some ⟨G, 0, none⟩) 1025 1025) wm from hmk)
  have hG0 : 0 < G := by
    rcases Nat.eq_zero_or_pos G with h | h
    · have := hw.1; rw [World.cell?] at this; rw [h] at hG; simp [hG] at this
    · exact h
  clear S2 R2 hmk hgr0 hb0 hi hz0 hz1 hz2 K hw hG
  go_wp2_with (rw [HM.out])
  have HKG := Lib.hid hGw
  have HG0 := Lib.hid hG0
  clear HM hGw hG0
  go_loopw [3] (fun v wr => ∃ (i : Nat) (os : List Value), v = .int .i64 i ∧ i ≤ 1025 ∧ os.length = 1025 ∧ Hid (∀ j, j < i → os[j]? = some (.int .u8 48)) ∧ wr.ownsRow G 5 1 (.slice (some ⟨G, 0, none⟩) 1025 1025) 1025 os ∧ Below w.heap.size w wr ∧ Hid (wide4 wr)) (fun v _ => 1025 - (intOf v).toNat)
  case atStart => exact ⟨0, _, rfl, by omega, List.length_replicate .., fun j hj => absurd hj (by omega), hown0, Km, hwm⟩
  case round =>
    obtain ⟨i, os, rfl, hi, hol, HO, ho, hb, HW⟩ := hrel
    rcases Nat.lt_or_ge i 1025 with hlt | hge
    · have co := ho.cellAt i (by omega)
      have cf := ho.frozenAt i
      obtain ⟨vj, hvj⟩ : ∃ v, os[i]? = some v := ⟨_, List.getElem?_eq_getElem (by omega)⟩
      rw [hvj] at co
      have HS := Lib.hid (ho.stored i (.int .u8 48))
      have HB := Lib.hid hb
      have HH := Lib.hid hvj
      clear ho hb hvj hown0 Km hwm
      go_wp2_with fail
      refine ⟨⟨i + 1, _, rfl, by omega, (List.length_set ..).trans hol, Lib.hid fun j hj => ?_, HS.out.1, HB.out.setCell (p := ⟨G, i, none⟩) HKG.out _, Lib.hid (wide4_set HW.out HG0.out)⟩, ?_⟩
      · rcases Nat.lt_or_ge j i with h | h
        · rw [List.getElem?_set_ne (by omega)]; exact HO.out j h
        · obtain rfl : j = i := by omega
          rw [List.getElem?_set_self (by omega)]
      · simp only [intOf]; omega
    · obtain rfl : i = 1025 := by omega
      have HB := Lib.hid hb
      have HA := Lib.hid (show ManyAt G wr from ⟨by have := (ho.cellAt 0 (by omega)).trans (HO.out 0 (by omega)); exact Decidable.byContradiction fun h => by (rw [World.cell?, Array.getElem?_eq_none (by show wr.heap.size ≤ G; omega)] at this; cases this), fun j hj => (ho.cellAt j hj).trans (HO.out j hj)⟩)
      clear ho hb hown0 Km hwm HO hol
      have HC := Lib.hid HA.out.whole
      go_wp2_with (rw [HC.out])
      have hal := alloc_below 0 wr (.cells #[.string ⟨#[50]⟩, .string ⟨#[48, 49, 120]⟩, .string ⟨#[32]⟩, .string ⟨#[48, 32, 49]⟩, .string (BT.rep 48 1025)] 9)
      have HF := Lib.hid (FiveAt.laid wr)
      have HA2 := Lib.hid (HA.out.below hal)
      have HW2 := Lib.hid (HW.out.below hal)
      have HB2 := Lib.hid (HB.out.trans (hal.mono HB.out.size))
      have HZ := Lib.hid HB.out.size
      clear hal HC HA HW HB
      go_loopw [87] (fun v wq => ∃ i : Nat, v = .int .i64 i ∧ i ≤ 5 ∧ Hid (ManyAt G wq) ∧ Hid (FiveAt wr.heap.size wq) ∧ Hid (wide4 wq) ∧ Below w.heap.size w wq) (fun v _ => 5 - (intOf v).toNat)
      case atStart => exact ⟨0, rfl, by omega, HA2, HF, HW2, HB2.out⟩
      case round =>
        obtain ⟨i, rfl, hi, HA, HF, HW, hb⟩ := hrel
        rcases Nat.lt_or_ge i 5 with hlt | hge
        · have co := HF.out.2 i hlt
          have HB := Lib.hid hb
          clear hb
          go_wp2_with fail
          refine (bad_told i _ HW.out).mono ?_; rintro e w3 ⟨a3, c3, rfl, S3, hb⟩
          have HF := Lib.hid (HF.out.below hb)
          have HA := Lib.hid (HA.out.below hb)
          have HW := Lib.hid (HW.out.below hb)
          have HB := Lib.hid (HB.out.trans (hb.mono HB.out.size))
          clear hb
          go_wp2_with fail
          refine (bad_count i _ HW.out).mono ?_; rintro e w4 ⟨rfl, hb⟩
          have HF := Lib.hid (HF.out.below hb)
          have HA := Lib.hid (HA.out.below hb)
          have HW := Lib.hid (HW.out.below hb)
          have HB := Lib.hid (HB.out.trans (hb.mono HB.out.size))
          clear hb
          go_wp2_with fail
          refine ⟨⟨i + 1, rfl, by omega, HA, HF, HW, HB.out⟩, ?_⟩
          simp only [intOf]; omega
        · obtain rfl : i = 5 := by omega
          have HB := Lib.hid hb
          have HT := Lib.hid HA.out.tail
          clear hb
          go_wp2_with (rw [HT.out])
          refine (three_told _ HW.out).mono ?_; rintro e w3 ⟨a3, c3, rfl, S3, hb⟩
          have HB := Lib.hid (HB.out.trans (hb.mono HB.out.size))
          clear hb
          go_wp2_with fail
          go_ret
          exact ⟨rfl, HB.out⟩
abbrev laidL : List (String × DataW Unit) := Rows.candNamesRow.laid
theorem door_met (os : Os) (args : Array Value) : laidMetH Tryd.prog laidL ((World.doorLaid Tryd.prog 400 os).forCall (fun _ _ => 0) ⟨#[], args, []⟩).memory :=
  laidMetH_of_parts3 (fuel := 8) (laidMet_of_run' 8 (by kernel_rfl) (by kernel_rfl)) (by kernel_rfl) (by kernel_rfl)
set_option maxRecDepth 100000 in
theorem lifted (os : Os) (started : os.Started) (H : Type) (enc : TypeId × Value → H) :
    ReturnsInHanded {} Tryd.checked os 4 .any (fun w args => (Rows.candNamesSpec.pre enc Tryd.prog Tryd.f4 [] false w args ∧ laidMetH Tryd.prog laidL w) ∧ sizedMet enc Tryd.prog Tryd.f4 (OpenSpec.ofChange Rows.candNamesSpec) false w args)
      (Rows.candNamesSpec.post enc Tryd.prog Tryd.f4 false true false false) := by
  refine returnsInHanded_of_change_and (C := Tryd.checked) (X := fun w _ => laidMetH Tryd.prog laidL w) (fun _ _ _ hh h => h.of_heap hh) own started (by kernel_rfl) Tryd.func4
    (ChangeSpec.witness_shaped (enc := enc) (C := Tryd.checked) (os := os) (X := fun w _ => laidMetH Tryd.prog laidL w) false (World.doorLaid Tryd.prog 400 os) #[] 8 rfl (World.shaped_of_RefB (by kernel_rfl) (by kernel_rfl)) (by kernel_rfl) (by kernel_rfl) (by kernel_rfl) (door_met os _)) ?_
  intro W base args ds gs before hval0 hW _ _ hL _
  have hval : ∀ (j : Nat) t v, Tryd.f4.params[j]? = some t → args[j]? = some v → Value.okWide Tryd.prog W .any base t v := hval0
  have hW' := hW
  obtain ⟨p, q, hA0, hV, rfl, hfz, hnd⟩ := hW
  have hA : DataW.TrodAll enc Tryd.prog W 0 (fun _ => true) true Tryd.f4.params.toList args.toList ds p := hA0
  rw [Tryd.params4] at hA hval
  obtain ⟨rfl, rfl, rfl⟩ := trodAll_none hA
  obtain ⟨rfl, rfl⟩ := trodVars_none hV
  clear hA0 hval0
  simp only [List.append_nil] at hW'
  refine (walk  W (CT.of_laid hL)).mono fun e W' ⟨he, hg⟩ => ?_
  subst he
  exact ⟨_, rfl, _, _, _, [], [], [], hW', (trodAll_cons_mk (shut_bool Tryd.underlying4 _) trodAll_mk0), rfl, rfl, hg.frame _, fun h => by cases h⟩

theorem over : Rows.candNamesRow.holds Tryd.pinned (OpenSpec.ofChange Rows.candNamesSpec) :=
  OpenClaim.holds_of_wide 4 Tryd.f4 rfl rfl rfl rfl rfl rfl rfl ⟨rfl, rfl, rfl, rfl, rfl⟩ rfl rfl rfl rfl rfl (by kernel_rfl) Tryd.func4 (by kernel_rfl)
    (of_decide_eq_true (by kernel_rfl)) (by unfold Func.isWrapper; first | (rw [if_pos (by decide +kernel)]; kernel_rfl) | (rw [if_neg (by decide +kernel)]; exact ⟨rfl, rfl⟩))
    (fun os started H enc _ => lifted os started H enc)


/-- ████ THE CARD ████ -/
theorem proved : Rows.CandNamesCardSaid :=
  Claim7.holds_tied_plain_at .later [] [.data] true (true, "8063661ee9a3d3253c0a59e3d6b8a79ccc07b40d5ce3f1ed386fd7d7af5f8f23") false
    over (fun _ h => by cases h) (by kernel_rfl) (fun _ h => by cases h) candNames_row_tie rfl ⟨rfl, rfl⟩ (by kernel_rfl) rfl
    (fun f fn hf hfn => by
      obtain rfl : f = 4 := Option.some.inj ((show Tryd.prog.funcNamed "tombola/tombolalaw30.CandNames" = some 4 by kernel_rfl).symm.trans hf) |>.symm
      obtain rfl : fn = Tryd.f4 := (Option.some.inj (Tryd.func4.symm.trans hfn)).symm
      exact ⟨by kernel_rfl, fun j t ht => by
        rw [Tryd.params4] at ht
        simp at ht⟩)
    (by kernel_rfl)
#print axioms proved
end Go.Proofs.YtbmifejeffgobaaDoor.candNames
