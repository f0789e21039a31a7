/- The statement CandBits, as a tied card: any string without any one of its bits, with a 0 for any one of its 1s, and with that and 1s for all behind it, is one of its lesser strings. Condition: the package variable cand.widths holds what the program's text lays, which the card ties. -/
import Derived.Test.YtbmifejeffgobaaDoorRows
import Derived.Test.YtbmifejeffgobaaDoorCards
import Derived.Test.YtbmifejeffgobaaDoorTie
import Derived.WalkKit
import Derived.ProofKit
import Derived.OpenShut
import Derived.ShutString
import Derived.Below
import Derived.LaidMore
import Derived.Stop.Joined
import Derived.SevenTiedAt
import Derived.Test.YtbmifejeffgobaaDoorCandK
import Derived.IntWalk
import Derived.Deep.Draws
namespace Go.Proofs.YtbmifejeffgobaaDoor.candBits
open Go.ChangeShapes Go.WideShapes Go.ChangeAt Go.RowKit
open Go.ChangeMaps (open_string shut_string)
open Go.Proofs
set_option linter.unusedVariables false
open Go.Proofs.CT
set_option linter.unusedSimpArgs false

theorem own : ownKnob Tryd.prog.godebug = none := by kernel_rfl
set_option maxHeartbeats 4000000 in
set_option maxRecDepth 100000 in
theorem walk (a0 : ByteArray) (a1 : Int) (w0 : a0.size ≤ maxLen) (w1 : (Lit.int .u16 a1).wf = true) (w : World) (hw : CT.wide4 w) :
    Calls Tryd.prog 5 #[.string a0, .int .u16 a1] w fun e w' => e = .returned (.bool true) ∧ Below w.heap.size w w' := by
  unfold maxLen at w0
  have K : Below w.heap.size w w := Below.refl _ _
  obtain ⟨p, rfl⟩ : ∃ p : Nat, a1 = p := ⟨a1.toNat, by have := bounds_u16 w1; omega⟩
  have hp : p ≤ 65535 := by have := bounds_u16 w1; omega
  clear w1
  by_cases hl : 300 < a0.size
  · go_enter Tryd.func5, Tryd.ntmps5
    go_wp2_with fail
    refine (awake _ hw).mono ?_; rintro e w1 ⟨rfl, hb⟩
    replace K : Below w.heap.size w w1 := K.trans (hb.mono K.size)
    clear hb
    go_wp2_with fail
    go_ret
    exact ⟨rfl, K⟩
  by_cases hz : a0.size = 0
  · have hz1 : ¬ 300 < a0.size := by omega
    have hz2 : (((a0.size : Nat) : Int) == 0) = true := by simp [hz]
    go_enter Tryd.func5, Tryd.ntmps5
    go_wp2_with fail
    refine (awake _ hw).mono ?_; rintro e w1 ⟨rfl, hb⟩
    replace K : Below w.heap.size w w1 := K.trans (hb.mono K.size)
    clear hb
    go_wp2_with fail
    go_ret
    exact ⟨rfl, K⟩
  have hz1 : 0 < a0.size := by omega
  have hz2 : (((a0.size : Nat) : Int) == 0) = false := by rw [beq_eq_false_iff_ne]; omega
  cases hib : BT.isB a0 with
  | false =>
    have I0 := Lib.hid (is_val a0 false hib (by omega))
    clear hib hz
    go_enter Tryd.func5, Tryd.ntmps5
    go_wp2_with fail
    refine (I0.out _).mono ?_; rintro e w1 ⟨rfl, hb⟩
    replace K : Below w.heap.size w w1 := K.trans (hb.mono K.size)
    replace hw := hw.below hb
    clear hb
    go_wp2_with fail
    refine (awake _ hw).mono ?_; rintro e w2 ⟨rfl, hb⟩
    replace K : Below w.heap.size w w2 := K.trans (hb.mono K.size)
    clear hb
    go_wp2_with fail
    go_ret
    exact ⟨rfl, K⟩
  | true =>
    have I0 := Lib.hid (is_val a0 true hib (by omega))
    have hlen := cands_len a0 (by omega)
    obtain ⟨L, hL⟩ : ∃ L, L = cands a0 := ⟨_, rfl⟩
    obtain ⟨n, hn⟩ : ∃ n, n = L.length := ⟨_, rfl⟩
    have hn2 : n ≤ 5000 := by rw [hn, hL]; exact hlen
    obtain ⟨k, hk⟩ : ∃ k, k = p % a0.size := ⟨_, rfl⟩
    have hks : k < a0.size := by rw [hk]; exact Nat.mod_lt _ hz1
    have HK := Lib.hid (show (p : Int) % (a0.size : Int) = (k : Int) by rw [hk]; simp)
    have R2 := Lib.hid (fun (W : World) (hW : wide4 W) => told_gives a0 (by omega) L 5000 (by omega) (by omega) (by omega) (by rw [hL, List.take_of_length_le hlen]) n hn 5000 rfl W hW)
    have M1 := Lib.hid (show BT.cutB a0 k 1 ∈ L by rw [hL]; exact cut_in hib hks)
    have M2 := Lib.hid (show a0[k] = 49 → BT.clearB a0 k 1 ∈ L from fun h => by rw [hL]; exact clear_in hib hks h)
    have M3 := Lib.hid (show a0[k] = 49 → BT.downB a0 k ∈ L from fun h => by rw [hL]; exact down_in hib hks h)
    clear hL hn hlen hib hz hk
    go_enter Tryd.func5, Tryd.ntmps5
    go_wp2_with fail
    refine (I0.out _).mono ?_; rintro e w1 ⟨rfl, hb⟩
    replace K : Below w.heap.size w w1 := K.trans (hb.mono K.size)
    replace hw := hw.below hb
    clear hb
    go_wp2_with fail
    refine (awake _ hw).mono ?_; rintro e w2 ⟨rfl, hb⟩
    replace K : Below w.heap.size w w2 := K.trans (hb.mono K.size)
    replace hw := hw.below hb
    clear hb
    go_wp2_with fail
    rw [HK.out]
    refine (R2.out _ hw).mono ?_; rintro e w3 ⟨a2, c2, rfl, S2, hb⟩
    replace K : Below w.heap.size w w3 := K.trans (hb.mono K.size)
    replace hw := hw.below hb
    clear hb
    go_wp2_with fail
    have hwA : IntKind.i64.wrap ((k : Int) + 1) = (k : Int) + 1 := by rw [IntWalk.i64_in _ (by omega)]
    have hwB : ((k : Int) + 1).toNat = k + 1 := by omega
    have hsz : a0.size ≤ 300 := by omega
    clear w0 hl
    have hk1 : k ≤ a0.size := by omega
    have hk2 : k + 1 ≤ a0.size := by omega
    have hk3 : (k : Int) ≤ (a0.size : Int) := by omega
    have hk4 : (k : Int) + 1 ≤ (a0.size : Int) := by omega
    have hk5 : (0 : Int) ≤ (k : Int) + 1 := by omega
    have hs1 : (a0.extract 0 k).size ≤ 300 := by rw [ByteArray.size_extract]; omega
    have hs2 : (a0.extract (k + 1) a0.size).size ≤ 300 := by rw [ByteArray.size_extract]; omega
    have hadd : ∀ W : World, (Op.stringOp .add (a0.extract 0 k) (a0.extract (k + 1) a0.size)).run Tryd.prog W = .ok (.string (a0.extract 0 k ++ a0.extract (k + 1) a0.size)) W := fun W => run_string_add_sum _ _ _ (by omega)
    have Q1 := Lib.hid (fun m => show Calls Tryd.prog 15 #[.slice a2 n c2, .string (a0.extract 0 k ++ a0.extract (k + 1) a0.size)] (w3.drewN m) (fun e w' => e = .returned (.bool true) ∧ w' = w3.drewN m) from among_drew L _ (BT.cutB a0 k 1) w3 S2 M1.out m)
    go_quiet ((go_at_call 15; exact Calls.quiet_of_same (Q1.out _)))
    clear Q1 M1
    by_cases h49 : a0[k] = 49
    · have h3 : ((a0[k].toNat : Nat) : Int) = 49 := by rw [h49]; rfl
      have h5 : (((a0[k].toNat : Nat) : Int) != 49) = false := by rw [h3]; rfl
      have M2' := Lib.hid (M2.out h49)
      have M3' := Lib.hid (M3.out h49)
      clear h49 M2 M3
      have Q2 := Lib.hid (fun m => show Calls Tryd.prog 15 #[.slice a2 n c2, .string (a0.extract 0 k ++ ⟨#[48]⟩ ++ a0.extract (k + 1) a0.size)] (w3.drewN m) (fun e w' => e = .returned (.bool true) ∧ w' = w3.drewN m) from among_drew L _ (BT.clearB a0 k 1) w3 S2 M2'.out m)
      have Q3 := Lib.hid (fun m => show Calls Tryd.prog 15 #[.slice a2 n c2, .string (a0.extract 0 k ++ ⟨#[48]⟩ ++ BT.rep 49 (a0.size - k - 1))] (w3.drewN m) (fun e w' => e = .returned (.bool true) ∧ w' = w3.drewN m) from among_drew L _ (BT.downB a0 k) w3 S2 M3'.out m)
      have hadd2 : ∀ W : World, (Op.stringOp .add (a0.extract 0 k) ⟨#[48]⟩).run Tryd.prog W = .ok (.string (a0.extract 0 k ++ ⟨#[48]⟩)) W := fun W => run_string_add_sum _ _ _ (by have : (⟨#[48]⟩ : ByteArray).size = 1 := rfl; omega)
      have hs3 : (a0.extract 0 k ++ ⟨#[48]⟩).size ≤ 301 := by rw [ByteArray.size_append]; have : (⟨#[48]⟩ : ByteArray).size = 1 := rfl; omega
      have hadd3 : ∀ W : World, (Op.stringOp .add (a0.extract 0 k ++ ⟨#[48]⟩) (a0.extract (k + 1) a0.size)).run Tryd.prog W = .ok (.string (a0.extract 0 k ++ ⟨#[48]⟩ ++ a0.extract (k + 1) a0.size)) W := fun W => run_string_add_sum _ _ _ (by omega)
      go_wp2_with fail
      go_loop [7] (fun v => ∃ (i : Nat) (b : ByteArray), v = .string b ∧ i ≤ a0.size - k - 1 ∧ b.size ≤ i ∧ i ≤ b.size ∧ Hid (b = BT.rep 49 i)) (fun v => match v with | .string b => a0.size - b.size | _ => 0)
      case atStart => exact ⟨0, ⟨#[]⟩, rfl, by omega, by decide, by decide, rfl⟩
      case round =>
        obtain ⟨i, b, rfl, hi, hb1, hb2, HB⟩ := hrel
        by_cases hlt : i < a0.size - k - 1
        · have HB2 : Hid (b ++ ⟨#[49]⟩ = BT.rep 49 (i + 1)) := by rw [Hid, HB.out]; exact BT.rep_succ _ _
          have HS := Lib.hid (show (b ++ ⟨#[49]⟩ : ByteArray).size = b.size + 1 by rw [ByteArray.size_append]; rfl)
          go_wp2_with fail
          go_round
          case rel => exact ⟨i + 1, _, rfl, by omega, by rw [HS.out]; omega, by rw [HS.out]; omega, HB2⟩
          case measure => simp only [HS.out]; omega
        · obtain rfl : i = a0.size - k - 1 := by omega
          have hbs : b.size ≤ 300 := by omega
          have Q3' := Lib.hid (fun m => show Calls Tryd.prog 15 #[.slice a2 n c2, .string (a0.extract 0 k ++ ⟨#[48]⟩ ++ b)] (w3.drewN m) (fun e w' => e = .returned (.bool true) ∧ w' = w3.drewN m) by rw [HB.out]; exact Q3.out m)
          have hadd4 : ∀ W : World, (Op.stringOp .add (a0.extract 0 k ++ ⟨#[48]⟩) b).run Tryd.prog W = .ok (.string (a0.extract 0 k ++ ⟨#[48]⟩ ++ b)) W := fun W => run_string_add_sum _ _ _ (by omega)
          clear HB Q3
          go_wp2_with fail
          go_quiet ((first | (go_at_call 15; with_reducible exact quiet_add_same (Q2.out _)) | (go_at_call 15; with_reducible exact quiet_add_same (Q3'.out _))))
          go_wp2_with fail
          go_ret
          refine ⟨rfl, ?_⟩
          first
            | exact below_drewN K _
            | exact below_drewN (below_drewN K _) _
            | (rw [World.drewN_drewN]; exact below_drewN K _)
    · have h3 : ¬ ((a0[k].toNat : Nat) : Int) = 49 := fun h => h49 (UInt8.toNat_inj.1 (by have : (49 : UInt8).toNat = 49 := rfl; omega))
      have h5 : (((a0[k].toNat : Nat) : Int) != 49) = true := by simpa using h3
      clear h49 M2 M3
      go_wp2_with fail
      go_ret
      exact ⟨rfl, below_drewN K _⟩
abbrev laidL : List (String × DataW Unit) := Rows.candBitsRow.laid
theorem door_met (os : Os) (args : Array Value) : laidMetH Tryd.prog laidL ((World.doorLaid Tryd.prog 400 os).forCall (fun _ _ => 0) ⟨#[], args, []⟩).memory :=
  laidMetH_of_parts3 (fuel := 8) (laidMet_of_run' 8 (by kernel_rfl) (by kernel_rfl)) (by kernel_rfl) (by kernel_rfl)
set_option maxRecDepth 100000 in
theorem lifted (os : Os) (started : os.Started) (H : Type) (enc : TypeId × Value → H) :
    ReturnsInHanded {} Tryd.checked os 5 .any (fun w args => (Rows.candBitsSpec.pre enc Tryd.prog Tryd.f5 [] false w args ∧ laidMetH Tryd.prog laidL w) ∧ sizedMet enc Tryd.prog Tryd.f5 (OpenSpec.ofChange Rows.candBitsSpec) false w args)
      (Rows.candBitsSpec.post enc Tryd.prog Tryd.f5 false true false false) := by
  refine returnsInHanded_of_change_and (C := Tryd.checked) (X := fun w _ => laidMetH Tryd.prog laidL w) (fun _ _ _ hh h => h.of_heap hh) own started (by kernel_rfl) Tryd.func5
    (ChangeSpec.witness_shaped (enc := enc) (C := Tryd.checked) (os := os) (X := fun w _ => laidMetH Tryd.prog laidL w) false (World.doorLaid Tryd.prog 400 os) #[.string ByteArray.empty, .int .u16 0] 8 rfl (World.shaped_of_RefB (by kernel_rfl) (by kernel_rfl)) (by kernel_rfl) (by kernel_rfl) (by kernel_rfl) (door_met os _)) ?_
  intro W base args ds gs before hval0 hW _ _ hL _
  have hval : ∀ (j : Nat) t v, Tryd.f5.params[j]? = some t → args[j]? = some v → Value.okWide Tryd.prog W .any base t v := hval0
  have hW' := hW
  obtain ⟨p, q, hA0, hV, rfl, hfz, hnd⟩ := hW
  have hA : DataW.TrodAll enc Tryd.prog W 0 (fun _ => true) true Tryd.f5.params.toList args.toList ds p := hA0
  rw [Tryd.params5] at hA hval
  obtain ⟨v0, vs0, d0, ds0, p0, q0, hargs, rfl, rfl, h0, r0⟩ := trodAll_cons hA
  obtain ⟨v1, vs1, d1, ds1, p1, q1, rfl, rfl, rfl, h1, r1⟩ := trodAll_cons r0
  obtain ⟨rfl, rfl, rfl⟩ := trodAll_nil r1
  obtain rfl : args = #[v0, v1] := by cases args; simp_all
  obtain ⟨rfl, rfl⟩ := trodVars_none hV
  obtain ⟨a0, rfl, rfl, rfl, w0⟩ := open_string Tryd.underlying9 (hval 0 9 v0 rfl rfl) h0
  obtain ⟨a1, rfl, rfl, rfl, w1⟩ := open_int Tryd.underlying30 (hval 1 30 v1 rfl rfl) h1
  clear hA0 hval0
  simp only [List.append_nil] at hW'
  refine (walk a0 a1 w0 w1 W (CT.of_laid hL)).mono fun e W' ⟨he, hg⟩ => ?_
  subst he
  exact ⟨_, rfl, _, _, _, [], [], [], hW', (trodAll_cons_mk (shut_bool Tryd.underlying4 _) trodAll_mk0), (trodAll_cons_mk (shut_string Tryd.underlying9 w0) (trodAll_cons_mk (shut_int Tryd.underlying30 w1) trodAll_mk0)), rfl, hg.frame _, fun h => by cases h⟩

theorem over : Rows.candBitsRow.holds Tryd.pinned (OpenSpec.ofChange Rows.candBitsSpec) :=
  OpenClaim.holds_of_wide 5 Tryd.f5 rfl rfl rfl rfl rfl rfl rfl ⟨rfl, rfl, rfl, rfl, rfl⟩ rfl rfl rfl rfl rfl (by kernel_rfl) Tryd.func5 (by kernel_rfl)
    (of_decide_eq_true (by kernel_rfl)) (by unfold Func.isWrapper; first | (rw [if_pos (by decide +kernel)]; kernel_rfl) | (rw [if_neg (by decide +kernel)]; exact ⟨rfl, rfl⟩))
    (fun os started H enc _ => lifted os started H enc)


/-- ████ THE CARD ████ -/
theorem proved : Rows.CandBitsCardSaid :=
  Claim7.holds_tied_plain_at .later [] [.data] true (true, "8063661ee9a3d3253c0a59e3d6b8a79ccc07b40d5ce3f1ed386fd7d7af5f8f23") false
    over (fun _ h => by cases h) (by kernel_rfl) (fun _ h => by cases h) candBits_row_tie rfl ⟨rfl, rfl⟩ (by kernel_rfl) rfl
    (fun f fn hf hfn => by
      obtain rfl : f = 5 := Option.some.inj ((show Tryd.prog.funcNamed "tombola/tombolalaw30.CandBits" = some 5 by kernel_rfl).symm.trans hf) |>.symm
      obtain rfl : fn = Tryd.f5 := (Option.some.inj (Tryd.func5.symm.trans hfn)).symm
      exact ⟨by kernel_rfl, fun j t ht => by
        rw [Tryd.params5] at ht
        have hm : t ∈ [9, 30] := by have := Array.mem_of_getElem? ht; simp at this ⊢; omega
        have hall : ([9, 30].all fun u => !Tryd.prog.wantsStandIn u) = true := by kernel_rfl
        exact (show Tryd.prog.wantsStandIn t = false by simpa using List.all_eq_true.1 hall t hm)⟩)
    (by kernel_rfl)
#print axioms proved
end Go.Proofs.YtbmifejeffgobaaDoor.candBits
