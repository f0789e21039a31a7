/- The statement QuoPowers: any power of any natural, or why it is refused, is the document's. No condition. -/
import Derived.Test.YtepndjcncmkkkaaRows
import Derived.WalkKit
import Derived.ProofKit
import Derived.OpenShut
import Derived.Test.YtepndjcncmkkkaaQuoPow2
import Derived.ShutString
import Derived.ChangeOld
import Derived.Below
namespace Go.Proofs.Ytepndjcncmkkkaa.quoPowers
open Go.ChangeShapes Go.WideShapes Go.ChangeAt Go.RowKit
open Go.Proofs
open Go.ChangeMaps (open_string shut_string)
set_option linter.unusedVariables false

theorem own : ownKnob Try.prog.godebug = none := by kernel_rfl
theorem laidOut : laidOutB Try.prog = true := by kernel_rfl

/-- WHAT THE WALK IS TOLD OF A SLICE OF INTEGERS THAT CAME IN: it is nil; or it leads to a row of 'cap' cells, the numbers 'zs' (the first 'len' are its elements, the rest its spare room), each fitting its kind. -/
def IsRow (k : IntKind) (w : World) (a : Option Addr) (len cap : Nat) (zs : List Int) : Prop :=
  (a = none ∧ len = 0 ∧ cap = 0 ∧ zs = []) ∨
  ∃ x, a = some x ∧ len ≤ cap ∧ cap ≤ maxLen ∧ zs.length = cap ∧ (∀ i, i < zs.length → w.cell? (x.add i) = some (.int k (zs.getD i 0))) ∧ ∀ n ∈ zs, (Lit.int k n).wf = true

open Go.Proofs.NP Go.Proofs.SL Go.Proofs.NR Go.Lib
set_option linter.unusedSimpArgs false

/-! ### STEP 1: THE WALK: the Go text returns true, AND WRITES NOTHING THAT WAS THERE: 'Below w.heap.size w w'' (Derived/Below.lean: '.refl', '.alloc', '.drew', '.setCell' at a new block, '.trans'). Open each 'IsRow' by 'rcases' AHEAD of 'go_enter'; part every test ahead of the walk. -/
set_option maxHeartbeats 8000000 in
set_option maxRecDepth 100000 in
theorem walk (a0 : Option Addr) (len0 cap0 : Nat) (z0 : List Int) (a1 : Int) (w : World) (w0 : IsRow .u64 w a0 len0 cap0 z0) (w1 : (Lit.int .i64 a1).wf = true) :
    Calls Try.prog 5 #[.slice a0 len0 cap0, .int .i64 a1] w fun e w' => e = .returned (.bool true) ∧ Below w.heap.size w w' := by
  obtain ⟨xs, rfl, Sx⟩ := QL.rows w0
  have K : Kp w w := Kp.refl w
  have bp := bounds_i64 w1
  clear w1
  clear w0
  by_cases hs : ¬ (xs.length ≤ 12)
  · have hz : true = decide (12 < xs.length) := by simp; omega
    clear hs
    have HZ := Lib.hid hz; clear hz
    go_enter Try.func5, Try.ntmps5
    go_wp2_with fail
    refine (QL.long1 (by simp) true HZ).mono ?_; rintro e w' ⟨rfl, rfl⟩
    go_wp2_with fail
    refine (QL.awake _).mono ?_; rintro e u1 ⟨rfl, hb⟩
    replace Sx : Rd u1 a0 cap0 (xs) := Rd.nx (by repeat (first | with_reducible exact Sx | with_reducible apply Rd.al | with_reducible apply Rd.dr | with_reducible apply Rd.dr1)) hb
    replace K : Kp w u1 := Kp.nx (by repeat (first | with_reducible exact K | with_reducible apply Kp.al | with_reducible apply Kp.dr | with_reducible apply Kp.dr1)) hb
    clear hb
    go_wp2_with fail
    go_ret
    exact ⟨rfl, Kp.below (by repeat (first | with_reducible exact K | with_reducible apply Kp.al | with_reducible apply Kp.dr | with_reducible apply Kp.dr1))⟩
  obtain n0 : xs.length ≤ 12 := by omega
  clear hs
  have fx : Fits (V xs) 12 := Fits.of Sx.ws (by omega)
  have hz : false = decide (12 < xs.length) := by simp; omega
  have HZ := Lib.hid hz; clear hz
  obtain ⟨jp, hjp⟩ : ∃ z, z = QL.pwL (V xs) a1 := ⟨_, rfl⟩
  have lp : jp.length ≤ 16384 := by rw [hjp]; exact QL.pwL_len _ _
  have Hjp := Lib.hid hjp; clear hjp
  obtain ⟨je, hje⟩ : ∃ z, z = QL.pwE (V xs) a1 := ⟨_, rfl⟩
  have Hje := Lib.hid hje; clear hje
  obtain ⟨s, hs⟩ : ∃ z, z = bitLen (V xs) := ⟨_, rfl⟩
  have ls : s ≤ 768 := by rw [hs]; exact LN.bitLen_fits fx
  have Hs := Lib.hid hs; clear hs
  have bp2 : a1 ≤ 9223372036854775807 := by omega
  rcases (show a1 ≤ 40 ∨ 1048576 ≤ a1 ∨ (40 < a1 ∧ a1 < 1048576) by omega) with h1 | h1 | ⟨h1, h2⟩
  · go_enter Try.func5, Try.ntmps5
    go_wp2_with fail
    refine (QL.long1 (by simp) false HZ).mono ?_; rintro e w' ⟨rfl, rfl⟩
    go_wp2_with fail
    refine (QL.powB (zs := jp) (xs := xs) (by repeat (first | with_reducible exact Sx | with_reducible apply Rd.al | with_reducible apply Rd.dr | with_reducible apply Rd.dr1)) rfl (by omega) a1 je bp2 Hjp.out Hje.out).mono ?_; rintro e u1 ⟨pd, qd, rfl, ho, hb⟩
    replace Sx : Rd u1 a0 cap0 (xs) := Rd.nx (by repeat (first | with_reducible exact Sx | with_reducible apply Rd.al | with_reducible apply Rd.dr | with_reducible apply Rd.dr1)) hb
    replace K : Kp w u1 := Kp.nx (by repeat (first | with_reducible exact K | with_reducible apply Kp.al | with_reducible apply Kp.dr | with_reducible apply Kp.dr1)) hb
    have Sd : Rd u1 pd qd (jp) := ho.rd
    clear ho hb
    go_wp2_with fail
    go_loopw [7] (fun s wr => ∃ i : Nat, s = .int .i64 i ∧ i ≤ 2 ∧ Kp u1 wr) (fun s _ => 2 - (intOf s).toNat)
    case atStart => exact ⟨0, rfl, by omega, Kp.refl _⟩
    case round =>
      obtain ⟨i, rfl, hi, Kr⟩ := hrel
      replace Sx : Rd wr a0 cap0 (xs) := Rd.nx Sx Kr
      replace Sd : Rd wr pd qd (jp) := Rd.nx Sd Kr
      have K0 := Lib.hid (Kp.nx K Kr)
      have KR := Lib.hid Kr; clear K Kr
      obtain ⟨wo, rfl⟩ : ∃ wo : World, wo = wr := ⟨_, rfl⟩
      by_cases hlt : i < 2
      · have K : Kp wo wo := Kp.refl _
        have Bx : Rd wo a0 cap0 (xs) := (by repeat (first | with_reducible exact Sx | with_reducible apply Rd.al | with_reducible apply Rd.dr | with_reducible apply Rd.dr1))
        have Bd : Rd wo pd qd (jp) := (by repeat (first | with_reducible exact Sd | with_reducible apply Rd.al | with_reducible apply Rd.dr | with_reducible apply Rd.dr1))
        go_wp2_with fail
        refine (QL.powA (zs := jp) (xs := xs) (by repeat (first | with_reducible exact Sx | with_reducible apply Rd.al | with_reducible apply Rd.dr | with_reducible apply Rd.dr1)) rfl (by omega) a1 je bp2 Hjp.out Hje.out).mono ?_; rintro e u11 ⟨pd1, qd1, rfl, ho, hb⟩
        have Gd1 : ∀ k, blk pd1 = some k → wo.heap.size ≤ k := QL.Own.from' ho (Below.size (show Kp wo _ from (by repeat (first | with_reducible exact K | with_reducible apply Kp.al | with_reducible apply Kp.dr | with_reducible apply Kp.dr1))))
        replace Sx : Rd u11 a0 cap0 (xs) := Rd.nx (by repeat (first | with_reducible exact Sx | with_reducible apply Rd.al | with_reducible apply Rd.dr | with_reducible apply Rd.dr1)) hb
        replace Sd : Rd u11 pd qd (jp) := Rd.nx (by repeat (first | with_reducible exact Sd | with_reducible apply Rd.al | with_reducible apply Rd.dr | with_reducible apply Rd.dr1)) hb
        replace K : Kp wo u11 := Kp.nx (by repeat (first | with_reducible exact K | with_reducible apply Kp.al | with_reducible apply Kp.dr | with_reducible apply Kp.dr1)) hb
        have Od1 : Own 36 _ u11 pd1 qd1 jp := ho
        have Sd1 : Rd u11 pd1 qd1 (jp) := ho.rd
        clear ho hb
        go_wp2_with fail
        refine (QL.same_yes (xs := jp) (ys := jp) (by repeat (first | with_reducible exact Sd1 | with_reducible apply Rd.al | with_reducible apply Rd.dr | with_reducible apply Rd.dr1)) (by repeat (first | with_reducible exact Sd | with_reducible apply Rd.al | with_reducible apply Rd.dr | with_reducible apply Rd.dr1)) rfl rfl (by omega) rfl).mono ?_; rintro e u12 ⟨rfl, hb⟩
        replace Sx : Rd u12 a0 cap0 (xs) := Rd.nx (by repeat (first | with_reducible exact Sx | with_reducible apply Rd.al | with_reducible apply Rd.dr | with_reducible apply Rd.dr1)) hb
        replace Sd : Rd u12 pd qd (jp) := Rd.nx (by repeat (first | with_reducible exact Sd | with_reducible apply Rd.al | with_reducible apply Rd.dr | with_reducible apply Rd.dr1)) hb
        replace Sd1 : Rd u12 pd1 qd1 (jp) := Rd.nx (by repeat (first | with_reducible exact Sd1 | with_reducible apply Rd.al | with_reducible apply Rd.dr | with_reducible apply Rd.dr1)) hb
        replace K : Kp wo u12 := Kp.nx (by repeat (first | with_reducible exact K | with_reducible apply Kp.al | with_reducible apply Kp.dr | with_reducible apply Kp.dr1)) hb
        replace Od1 : Own 36 _ u12 pd1 qd1 jp := Own.nx (by repeat (first | with_reducible exact Od1 | with_reducible apply Own.al | with_reducible apply Own.dr)) hb
        clear hb
        go_wp2_with fail
        refine (QL.spoil (xs := jp) Od1 rfl).mono ?_; rintro e u13 ⟨rfl, hg⟩
        replace K : Kp wo u13 := Kp.grown K hg Gd1
        replace Sx : Rd u13 a0 cap0 (xs) := Rd.nx Bx K
        replace Sd : Rd u13 pd qd (jp) := Rd.nx Bd K
        clear Sd1
        clear hg Od1 Gd1
        go_wp2_with fail
        go_roundw
        case rel => exact ⟨i + 1, by go_num, by omega, Kp.nx KR.out (by repeat (first | with_reducible exact K | with_reducible apply Kp.al | with_reducible apply Kp.dr | with_reducible apply Kp.dr1))⟩
        case measure => simp [intOf]; omega
      · have K := K0.out
        go_wp2_with fail
        refine (QL.awake _).mono ?_; rintro e u31 ⟨rfl, hb⟩
        replace K : Kp w u31 := Kp.nx (by repeat (first | with_reducible exact K | with_reducible apply Kp.al | with_reducible apply Kp.dr | with_reducible apply Kp.dr1)) hb
        clear hb
        go_wp2_with fail
        go_ret
        exact ⟨rfl, Kp.below (by repeat (first | with_reducible exact K | with_reducible apply Kp.al | with_reducible apply Kp.dr | with_reducible apply Kp.dr1))⟩
  · go_enter Try.func5, Try.ntmps5
    go_wp2_with fail
    refine (QL.long1 (by simp) false HZ).mono ?_; rintro e w' ⟨rfl, rfl⟩
    go_wp2_with fail
    refine (QL.powB (zs := jp) (xs := xs) (by repeat (first | with_reducible exact Sx | with_reducible apply Rd.al | with_reducible apply Rd.dr | with_reducible apply Rd.dr1)) rfl (by omega) a1 je bp2 Hjp.out Hje.out).mono ?_; rintro e u1 ⟨pd, qd, rfl, ho, hb⟩
    replace Sx : Rd u1 a0 cap0 (xs) := Rd.nx (by repeat (first | with_reducible exact Sx | with_reducible apply Rd.al | with_reducible apply Rd.dr | with_reducible apply Rd.dr1)) hb
    replace K : Kp w u1 := Kp.nx (by repeat (first | with_reducible exact K | with_reducible apply Kp.al | with_reducible apply Kp.dr | with_reducible apply Kp.dr1)) hb
    have Sd : Rd u1 pd qd (jp) := ho.rd
    clear ho hb
    go_wp2_with fail
    go_loopw [7] (fun s wr => ∃ i : Nat, s = .int .i64 i ∧ i ≤ 2 ∧ Kp u1 wr) (fun s _ => 2 - (intOf s).toNat)
    case atStart => exact ⟨0, rfl, by omega, Kp.refl _⟩
    case round =>
      obtain ⟨i, rfl, hi, Kr⟩ := hrel
      replace Sx : Rd wr a0 cap0 (xs) := Rd.nx Sx Kr
      replace Sd : Rd wr pd qd (jp) := Rd.nx Sd Kr
      have K0 := Lib.hid (Kp.nx K Kr)
      have KR := Lib.hid Kr; clear K Kr
      obtain ⟨wo, rfl⟩ : ∃ wo : World, wo = wr := ⟨_, rfl⟩
      by_cases hlt : i < 2
      · have K : Kp wo wo := Kp.refl _
        have Bx : Rd wo a0 cap0 (xs) := (by repeat (first | with_reducible exact Sx | with_reducible apply Rd.al | with_reducible apply Rd.dr | with_reducible apply Rd.dr1))
        have Bd : Rd wo pd qd (jp) := (by repeat (first | with_reducible exact Sd | with_reducible apply Rd.al | with_reducible apply Rd.dr | with_reducible apply Rd.dr1))
        go_wp2_with fail
        refine (QL.powA (zs := jp) (xs := xs) (by repeat (first | with_reducible exact Sx | with_reducible apply Rd.al | with_reducible apply Rd.dr | with_reducible apply Rd.dr1)) rfl (by omega) a1 je bp2 Hjp.out Hje.out).mono ?_; rintro e u11 ⟨pd1, qd1, rfl, ho, hb⟩
        have Gd1 : ∀ k, blk pd1 = some k → wo.heap.size ≤ k := QL.Own.from' ho (Below.size (show Kp wo _ from (by repeat (first | with_reducible exact K | with_reducible apply Kp.al | with_reducible apply Kp.dr | with_reducible apply Kp.dr1))))
        replace Sx : Rd u11 a0 cap0 (xs) := Rd.nx (by repeat (first | with_reducible exact Sx | with_reducible apply Rd.al | with_reducible apply Rd.dr | with_reducible apply Rd.dr1)) hb
        replace Sd : Rd u11 pd qd (jp) := Rd.nx (by repeat (first | with_reducible exact Sd | with_reducible apply Rd.al | with_reducible apply Rd.dr | with_reducible apply Rd.dr1)) hb
        replace K : Kp wo u11 := Kp.nx (by repeat (first | with_reducible exact K | with_reducible apply Kp.al | with_reducible apply Kp.dr | with_reducible apply Kp.dr1)) hb
        have Od1 : Own 36 _ u11 pd1 qd1 jp := ho
        have Sd1 : Rd u11 pd1 qd1 (jp) := ho.rd
        clear ho hb
        go_wp2_with fail
        refine (QL.same_yes (xs := jp) (ys := jp) (by repeat (first | with_reducible exact Sd1 | with_reducible apply Rd.al | with_reducible apply Rd.dr | with_reducible apply Rd.dr1)) (by repeat (first | with_reducible exact Sd | with_reducible apply Rd.al | with_reducible apply Rd.dr | with_reducible apply Rd.dr1)) rfl rfl (by omega) rfl).mono ?_; rintro e u12 ⟨rfl, hb⟩
        replace Sx : Rd u12 a0 cap0 (xs) := Rd.nx (by repeat (first | with_reducible exact Sx | with_reducible apply Rd.al | with_reducible apply Rd.dr | with_reducible apply Rd.dr1)) hb
        replace Sd : Rd u12 pd qd (jp) := Rd.nx (by repeat (first | with_reducible exact Sd | with_reducible apply Rd.al | with_reducible apply Rd.dr | with_reducible apply Rd.dr1)) hb
        replace Sd1 : Rd u12 pd1 qd1 (jp) := Rd.nx (by repeat (first | with_reducible exact Sd1 | with_reducible apply Rd.al | with_reducible apply Rd.dr | with_reducible apply Rd.dr1)) hb
        replace K : Kp wo u12 := Kp.nx (by repeat (first | with_reducible exact K | with_reducible apply Kp.al | with_reducible apply Kp.dr | with_reducible apply Kp.dr1)) hb
        replace Od1 : Own 36 _ u12 pd1 qd1 jp := Own.nx (by repeat (first | with_reducible exact Od1 | with_reducible apply Own.al | with_reducible apply Own.dr)) hb
        clear hb
        go_wp2_with fail
        refine (QL.spoil (xs := jp) Od1 rfl).mono ?_; rintro e u13 ⟨rfl, hg⟩
        replace K : Kp wo u13 := Kp.grown K hg Gd1
        replace Sx : Rd u13 a0 cap0 (xs) := Rd.nx Bx K
        replace Sd : Rd u13 pd qd (jp) := Rd.nx Bd K
        clear Sd1
        clear hg Od1 Gd1
        go_wp2_with fail
        go_roundw
        case rel => exact ⟨i + 1, by go_num, by omega, Kp.nx KR.out (by repeat (first | with_reducible exact K | with_reducible apply Kp.al | with_reducible apply Kp.dr | with_reducible apply Kp.dr1))⟩
        case measure => simp [intOf]; omega
      · have K := K0.out
        go_wp2_with fail
        refine (QL.awake _).mono ?_; rintro e u31 ⟨rfl, hb⟩
        replace K : Kp w u31 := Kp.nx (by repeat (first | with_reducible exact K | with_reducible apply Kp.al | with_reducible apply Kp.dr | with_reducible apply Kp.dr1)) hb
        clear hb
        go_wp2_with fail
        go_ret
        exact ⟨rfl, Kp.below (by repeat (first | with_reducible exact K | with_reducible apply Kp.al | with_reducible apply Kp.dr | with_reducible apply Kp.dr1))⟩
  · by_cases h3 : s ≤ 1
    · go_enter Try.func5, Try.ntmps5
      go_wp2_with fail
      refine (QL.long1 (by simp) false HZ).mono ?_; rintro e w' ⟨rfl, rfl⟩
      go_wp2_with fail
      refine (RN.len (xs := xs) (by repeat (first | with_reducible exact Sx | with_reducible apply Rd.al | with_reducible apply Rd.dr | with_reducible apply Rd.dr1)) rfl (by omega) s Hs.out).mono ?_; rintro e u1 ⟨rfl, hb⟩
      replace Sx : Rd u1 a0 cap0 (xs) := Rd.nx (by repeat (first | with_reducible exact Sx | with_reducible apply Rd.al | with_reducible apply Rd.dr | with_reducible apply Rd.dr1)) hb
      replace K : Kp w u1 := Kp.nx (by repeat (first | with_reducible exact K | with_reducible apply Kp.al | with_reducible apply Kp.dr | with_reducible apply Kp.dr1)) hb
      clear hb
      go_wp2_with fail
      refine (QL.powB (zs := jp) (xs := xs) (by repeat (first | with_reducible exact Sx | with_reducible apply Rd.al | with_reducible apply Rd.dr | with_reducible apply Rd.dr1)) rfl (by omega) a1 je bp2 Hjp.out Hje.out).mono ?_; rintro e u2 ⟨pd, qd, rfl, ho, hb⟩
      replace Sx : Rd u2 a0 cap0 (xs) := Rd.nx (by repeat (first | with_reducible exact Sx | with_reducible apply Rd.al | with_reducible apply Rd.dr | with_reducible apply Rd.dr1)) hb
      replace K : Kp w u2 := Kp.nx (by repeat (first | with_reducible exact K | with_reducible apply Kp.al | with_reducible apply Kp.dr | with_reducible apply Kp.dr1)) hb
      have Sd : Rd u2 pd qd (jp) := ho.rd
      clear ho hb
      go_wp2_with fail
      go_loopw [7] (fun s wr => ∃ i : Nat, s = .int .i64 i ∧ i ≤ 2 ∧ Kp u2 wr) (fun s _ => 2 - (intOf s).toNat)
      case atStart => exact ⟨0, rfl, by omega, Kp.refl _⟩
      case round =>
        obtain ⟨i, rfl, hi, Kr⟩ := hrel
        replace Sx : Rd wr a0 cap0 (xs) := Rd.nx Sx Kr
        replace Sd : Rd wr pd qd (jp) := Rd.nx Sd Kr
        have K0 := Lib.hid (Kp.nx K Kr)
        have KR := Lib.hid Kr; clear K Kr
        obtain ⟨wo, rfl⟩ : ∃ wo : World, wo = wr := ⟨_, rfl⟩
        by_cases hlt : i < 2
        · have K : Kp wo wo := Kp.refl _
          have Bx : Rd wo a0 cap0 (xs) := (by repeat (first | with_reducible exact Sx | with_reducible apply Rd.al | with_reducible apply Rd.dr | with_reducible apply Rd.dr1))
          have Bd : Rd wo pd qd (jp) := (by repeat (first | with_reducible exact Sd | with_reducible apply Rd.al | with_reducible apply Rd.dr | with_reducible apply Rd.dr1))
          go_wp2_with fail
          refine (QL.powA (zs := jp) (xs := xs) (by repeat (first | with_reducible exact Sx | with_reducible apply Rd.al | with_reducible apply Rd.dr | with_reducible apply Rd.dr1)) rfl (by omega) a1 je bp2 Hjp.out Hje.out).mono ?_; rintro e u11 ⟨pd1, qd1, rfl, ho, hb⟩
          have Gd1 : ∀ k, blk pd1 = some k → wo.heap.size ≤ k := QL.Own.from' ho (Below.size (show Kp wo _ from (by repeat (first | with_reducible exact K | with_reducible apply Kp.al | with_reducible apply Kp.dr | with_reducible apply Kp.dr1))))
          replace Sx : Rd u11 a0 cap0 (xs) := Rd.nx (by repeat (first | with_reducible exact Sx | with_reducible apply Rd.al | with_reducible apply Rd.dr | with_reducible apply Rd.dr1)) hb
          replace Sd : Rd u11 pd qd (jp) := Rd.nx (by repeat (first | with_reducible exact Sd | with_reducible apply Rd.al | with_reducible apply Rd.dr | with_reducible apply Rd.dr1)) hb
          replace K : Kp wo u11 := Kp.nx (by repeat (first | with_reducible exact K | with_reducible apply Kp.al | with_reducible apply Kp.dr | with_reducible apply Kp.dr1)) hb
          have Od1 : Own 36 _ u11 pd1 qd1 jp := ho
          have Sd1 : Rd u11 pd1 qd1 (jp) := ho.rd
          clear ho hb
          go_wp2_with fail
          refine (QL.same_yes (xs := jp) (ys := jp) (by repeat (first | with_reducible exact Sd1 | with_reducible apply Rd.al | with_reducible apply Rd.dr | with_reducible apply Rd.dr1)) (by repeat (first | with_reducible exact Sd | with_reducible apply Rd.al | with_reducible apply Rd.dr | with_reducible apply Rd.dr1)) rfl rfl (by omega) rfl).mono ?_; rintro e u12 ⟨rfl, hb⟩
          replace Sx : Rd u12 a0 cap0 (xs) := Rd.nx (by repeat (first | with_reducible exact Sx | with_reducible apply Rd.al | with_reducible apply Rd.dr | with_reducible apply Rd.dr1)) hb
          replace Sd : Rd u12 pd qd (jp) := Rd.nx (by repeat (first | with_reducible exact Sd | with_reducible apply Rd.al | with_reducible apply Rd.dr | with_reducible apply Rd.dr1)) hb
          replace Sd1 : Rd u12 pd1 qd1 (jp) := Rd.nx (by repeat (first | with_reducible exact Sd1 | with_reducible apply Rd.al | with_reducible apply Rd.dr | with_reducible apply Rd.dr1)) hb
          replace K : Kp wo u12 := Kp.nx (by repeat (first | with_reducible exact K | with_reducible apply Kp.al | with_reducible apply Kp.dr | with_reducible apply Kp.dr1)) hb
          replace Od1 : Own 36 _ u12 pd1 qd1 jp := Own.nx (by repeat (first | with_reducible exact Od1 | with_reducible apply Own.al | with_reducible apply Own.dr)) hb
          clear hb
          go_wp2_with fail
          refine (QL.spoil (xs := jp) Od1 rfl).mono ?_; rintro e u13 ⟨rfl, hg⟩
          replace K : Kp wo u13 := Kp.grown K hg Gd1
          replace Sx : Rd u13 a0 cap0 (xs) := Rd.nx Bx K
          replace Sd : Rd u13 pd qd (jp) := Rd.nx Bd K
          clear Sd1
          clear hg Od1 Gd1
          go_wp2_with fail
          go_roundw
          case rel => exact ⟨i + 1, by go_num, by omega, Kp.nx KR.out (by repeat (first | with_reducible exact K | with_reducible apply Kp.al | with_reducible apply Kp.dr | with_reducible apply Kp.dr1))⟩
          case measure => simp [intOf]; omega
        · have K := K0.out
          go_wp2_with fail
          refine (QL.awake _).mono ?_; rintro e u31 ⟨rfl, hb⟩
          replace K : Kp w u31 := Kp.nx (by repeat (first | with_reducible exact K | with_reducible apply Kp.al | with_reducible apply Kp.dr | with_reducible apply Kp.dr1)) hb
          clear hb
          go_wp2_with fail
          go_ret
          exact ⟨rfl, Kp.below (by repeat (first | with_reducible exact K | with_reducible apply Kp.al | with_reducible apply Kp.dr | with_reducible apply Kp.dr1))⟩
    · have P0 : 0 ≤ (s : Int) * a1 := Int.mul_nonneg (by omega) (by omega)
      have P1 : (s : Int) * a1 ≤ 768 * 1048576 := Int.mul_le_mul (by omega) (by omega) (by omega) (by omega)
      by_cases h4 : (s : Int) * a1 ≤ 1048576
      · go_enter Try.func5, Try.ntmps5
        go_wp2_with fail
        refine (QL.long1 (by simp) false HZ).mono ?_; rintro e w' ⟨rfl, rfl⟩
        go_wp2_with fail
        refine (RN.len (xs := xs) (by repeat (first | with_reducible exact Sx | with_reducible apply Rd.al | with_reducible apply Rd.dr | with_reducible apply Rd.dr1)) rfl (by omega) s Hs.out).mono ?_; rintro e u1 ⟨rfl, hb⟩
        replace Sx : Rd u1 a0 cap0 (xs) := Rd.nx (by repeat (first | with_reducible exact Sx | with_reducible apply Rd.al | with_reducible apply Rd.dr | with_reducible apply Rd.dr1)) hb
        replace K : Kp w u1 := Kp.nx (by repeat (first | with_reducible exact K | with_reducible apply Kp.al | with_reducible apply Kp.dr | with_reducible apply Kp.dr1)) hb
        clear hb
        go_wp2_with fail
        refine (RN.len (xs := xs) (by repeat (first | with_reducible exact Sx | with_reducible apply Rd.al | with_reducible apply Rd.dr | with_reducible apply Rd.dr1)) rfl (by omega) s Hs.out).mono ?_; rintro e u2 ⟨rfl, hb⟩
        replace Sx : Rd u2 a0 cap0 (xs) := Rd.nx (by repeat (first | with_reducible exact Sx | with_reducible apply Rd.al | with_reducible apply Rd.dr | with_reducible apply Rd.dr1)) hb
        replace K : Kp w u2 := Kp.nx (by repeat (first | with_reducible exact K | with_reducible apply Kp.al | with_reducible apply Kp.dr | with_reducible apply Kp.dr1)) hb
        clear hb
        go_wp2_with fail
        refine (QL.awake _).mono ?_; rintro e u3 ⟨rfl, hb⟩
        replace Sx : Rd u3 a0 cap0 (xs) := Rd.nx (by repeat (first | with_reducible exact Sx | with_reducible apply Rd.al | with_reducible apply Rd.dr | with_reducible apply Rd.dr1)) hb
        replace K : Kp w u3 := Kp.nx (by repeat (first | with_reducible exact K | with_reducible apply Kp.al | with_reducible apply Kp.dr | with_reducible apply Kp.dr1)) hb
        clear hb
        go_wp2_with fail
        go_ret
        exact ⟨rfl, Kp.below (by repeat (first | with_reducible exact K | with_reducible apply Kp.al | with_reducible apply Kp.dr | with_reducible apply Kp.dr1))⟩
      · go_enter Try.func5, Try.ntmps5
        go_wp2_with fail
        refine (QL.long1 (by simp) false HZ).mono ?_; rintro e w' ⟨rfl, rfl⟩
        go_wp2_with fail
        refine (RN.len (xs := xs) (by repeat (first | with_reducible exact Sx | with_reducible apply Rd.al | with_reducible apply Rd.dr | with_reducible apply Rd.dr1)) rfl (by omega) s Hs.out).mono ?_; rintro e u1 ⟨rfl, hb⟩
        replace Sx : Rd u1 a0 cap0 (xs) := Rd.nx (by repeat (first | with_reducible exact Sx | with_reducible apply Rd.al | with_reducible apply Rd.dr | with_reducible apply Rd.dr1)) hb
        replace K : Kp w u1 := Kp.nx (by repeat (first | with_reducible exact K | with_reducible apply Kp.al | with_reducible apply Kp.dr | with_reducible apply Kp.dr1)) hb
        clear hb
        go_wp2_with fail
        refine (RN.len (xs := xs) (by repeat (first | with_reducible exact Sx | with_reducible apply Rd.al | with_reducible apply Rd.dr | with_reducible apply Rd.dr1)) rfl (by omega) s Hs.out).mono ?_; rintro e u2 ⟨rfl, hb⟩
        replace Sx : Rd u2 a0 cap0 (xs) := Rd.nx (by repeat (first | with_reducible exact Sx | with_reducible apply Rd.al | with_reducible apply Rd.dr | with_reducible apply Rd.dr1)) hb
        replace K : Kp w u2 := Kp.nx (by repeat (first | with_reducible exact K | with_reducible apply Kp.al | with_reducible apply Kp.dr | with_reducible apply Kp.dr1)) hb
        clear hb
        go_wp2_with fail
        refine (QL.powB (zs := jp) (xs := xs) (by repeat (first | with_reducible exact Sx | with_reducible apply Rd.al | with_reducible apply Rd.dr | with_reducible apply Rd.dr1)) rfl (by omega) a1 je bp2 Hjp.out Hje.out).mono ?_; rintro e u3 ⟨pd, qd, rfl, ho, hb⟩
        replace Sx : Rd u3 a0 cap0 (xs) := Rd.nx (by repeat (first | with_reducible exact Sx | with_reducible apply Rd.al | with_reducible apply Rd.dr | with_reducible apply Rd.dr1)) hb
        replace K : Kp w u3 := Kp.nx (by repeat (first | with_reducible exact K | with_reducible apply Kp.al | with_reducible apply Kp.dr | with_reducible apply Kp.dr1)) hb
        have Sd : Rd u3 pd qd (jp) := ho.rd
        clear ho hb
        go_wp2_with fail
        go_loopw [7] (fun s wr => ∃ i : Nat, s = .int .i64 i ∧ i ≤ 2 ∧ Kp u3 wr) (fun s _ => 2 - (intOf s).toNat)
        case atStart => exact ⟨0, rfl, by omega, Kp.refl _⟩
        case round =>
          obtain ⟨i, rfl, hi, Kr⟩ := hrel
          replace Sx : Rd wr a0 cap0 (xs) := Rd.nx Sx Kr
          replace Sd : Rd wr pd qd (jp) := Rd.nx Sd Kr
          have K0 := Lib.hid (Kp.nx K Kr)
          have KR := Lib.hid Kr; clear K Kr
          obtain ⟨wo, rfl⟩ : ∃ wo : World, wo = wr := ⟨_, rfl⟩
          by_cases hlt : i < 2
          · have K : Kp wo wo := Kp.refl _
            have Bx : Rd wo a0 cap0 (xs) := (by repeat (first | with_reducible exact Sx | with_reducible apply Rd.al | with_reducible apply Rd.dr | with_reducible apply Rd.dr1))
            have Bd : Rd wo pd qd (jp) := (by repeat (first | with_reducible exact Sd | with_reducible apply Rd.al | with_reducible apply Rd.dr | with_reducible apply Rd.dr1))
            go_wp2_with fail
            refine (QL.powA (zs := jp) (xs := xs) (by repeat (first | with_reducible exact Sx | with_reducible apply Rd.al | with_reducible apply Rd.dr | with_reducible apply Rd.dr1)) rfl (by omega) a1 je bp2 Hjp.out Hje.out).mono ?_; rintro e u11 ⟨pd1, qd1, rfl, ho, hb⟩
            have Gd1 : ∀ k, blk pd1 = some k → wo.heap.size ≤ k := QL.Own.from' ho (Below.size (show Kp wo _ from (by repeat (first | with_reducible exact K | with_reducible apply Kp.al | with_reducible apply Kp.dr | with_reducible apply Kp.dr1))))
            replace Sx : Rd u11 a0 cap0 (xs) := Rd.nx (by repeat (first | with_reducible exact Sx | with_reducible apply Rd.al | with_reducible apply Rd.dr | with_reducible apply Rd.dr1)) hb
            replace Sd : Rd u11 pd qd (jp) := Rd.nx (by repeat (first | with_reducible exact Sd | with_reducible apply Rd.al | with_reducible apply Rd.dr | with_reducible apply Rd.dr1)) hb
            replace K : Kp wo u11 := Kp.nx (by repeat (first | with_reducible exact K | with_reducible apply Kp.al | with_reducible apply Kp.dr | with_reducible apply Kp.dr1)) hb
            have Od1 : Own 36 _ u11 pd1 qd1 jp := ho
            have Sd1 : Rd u11 pd1 qd1 (jp) := ho.rd
            clear ho hb
            go_wp2_with fail
            refine (QL.same_yes (xs := jp) (ys := jp) (by repeat (first | with_reducible exact Sd1 | with_reducible apply Rd.al | with_reducible apply Rd.dr | with_reducible apply Rd.dr1)) (by repeat (first | with_reducible exact Sd | with_reducible apply Rd.al | with_reducible apply Rd.dr | with_reducible apply Rd.dr1)) rfl rfl (by omega) rfl).mono ?_; rintro e u12 ⟨rfl, hb⟩
            replace Sx : Rd u12 a0 cap0 (xs) := Rd.nx (by repeat (first | with_reducible exact Sx | with_reducible apply Rd.al | with_reducible apply Rd.dr | with_reducible apply Rd.dr1)) hb
            replace Sd : Rd u12 pd qd (jp) := Rd.nx (by repeat (first | with_reducible exact Sd | with_reducible apply Rd.al | with_reducible apply Rd.dr | with_reducible apply Rd.dr1)) hb
            replace Sd1 : Rd u12 pd1 qd1 (jp) := Rd.nx (by repeat (first | with_reducible exact Sd1 | with_reducible apply Rd.al | with_reducible apply Rd.dr | with_reducible apply Rd.dr1)) hb
            replace K : Kp wo u12 := Kp.nx (by repeat (first | with_reducible exact K | with_reducible apply Kp.al | with_reducible apply Kp.dr | with_reducible apply Kp.dr1)) hb
            replace Od1 : Own 36 _ u12 pd1 qd1 jp := Own.nx (by repeat (first | with_reducible exact Od1 | with_reducible apply Own.al | with_reducible apply Own.dr)) hb
            clear hb
            go_wp2_with fail
            refine (QL.spoil (xs := jp) Od1 rfl).mono ?_; rintro e u13 ⟨rfl, hg⟩
            replace K : Kp wo u13 := Kp.grown K hg Gd1
            replace Sx : Rd u13 a0 cap0 (xs) := Rd.nx Bx K
            replace Sd : Rd u13 pd qd (jp) := Rd.nx Bd K
            clear Sd1
            clear hg Od1 Gd1
            go_wp2_with fail
            go_roundw
            case rel => exact ⟨i + 1, by go_num, by omega, Kp.nx KR.out (by repeat (first | with_reducible exact K | with_reducible apply Kp.al | with_reducible apply Kp.dr | with_reducible apply Kp.dr1))⟩
            case measure => simp [intOf]; omega
          · have K := K0.out
            go_wp2_with fail
            refine (QL.awake _).mono ?_; rintro e u31 ⟨rfl, hb⟩
            replace K : Kp w u31 := Kp.nx (by repeat (first | with_reducible exact K | with_reducible apply Kp.al | with_reducible apply Kp.dr | with_reducible apply Kp.dr1)) hb
            clear hb
            go_wp2_with fail
            go_ret
            exact ⟨rfl, Kp.below (by repeat (first | with_reducible exact K | with_reducible apply Kp.al | with_reducible apply Kp.dr | with_reducible apply Kp.dr1))⟩

/-! ### THE ROW's STEP: WRITTEN OUT: LEAVE IT -/
set_option maxRecDepth 100000 in
theorem lifted (os : Os) (started : os.Started) (H : Type) (enc : TypeId × Value → H) :
    ReturnsInHanded {} Try.checked os 5 .any (Rows.quoPowersSpec.pre6 enc Try.prog Try.f5 Rows.quoPowersRow.domain false) (Rows.quoPowersSpec.post enc Try.prog Try.f5 false true false false) := by
  refine returnsInHanded_of_change (C := Try.checked) own started (by kernel_rfl) Try.func5
    (ChangeSpec.witness6 (enc := enc) (C := Try.checked) false ⟨#[], #[.slice none 0 0, .int .i64 0], []⟩ 8 (by kernel_rfl) (by kernel_rfl) (by kernel_rfl) (by kernel_rfl)) ?_
  intro W base args ds gs before hval0 hW hcnd _
  have hval : ∀ (j : Nat) t v, Try.f5.params[j]? = some t → args[j]? = some v → Value.okWide Try.prog W .any base t v := hval0
  have hW' := hW
  obtain ⟨p, q, hA0, hV, rfl, hfz, hnd⟩ := hW
  have hA : DataW.TrodAll enc Try.prog W 0 (fun _ => true) true Try.f5.params.toList args.toList ds p := hA0
  rw [Try.params5] at hA hval
  obtain ⟨v0, vs0, d0, ds0, p0, q0, hargs, rfl, rfl, h0, r0⟩ := trodAll_cons hA
  obtain ⟨v1, vs1, d1, ds1, p1, q1, rfl, rfl, rfl, h1, r1⟩ := trodAll_cons r0
  obtain ⟨rfl, rfl, rfl⟩ := trodAll_nil r1
  obtain rfl : args = #[v0, v1] := by cases args; simp_all
  obtain ⟨rfl, rfl⟩ := trodVars_none hV
  obtain ⟨a0, len0, cap0, rfl⟩ := okWide_slice Try.underlying23 (hval 0 23 v0 rfl rfl)
  have k0 := h0
  have lt0 : ∀ x ∈ p0, x.block < W.heap.size := by obtain ⟨m, hm⟩ := k0; exact DataW.trod_lt m _ _ _ hm
  obtain ⟨z0, w0⟩ : ∃ zs, IsRow .u64 W a0 len0 cap0 zs := by
    obtain ⟨fuel, hf⟩ := h0
    rcases open_ints Try.underlying23 Try.underlying36 (by kernel_rfl) hf with ⟨hcs, _⟩ | ⟨x, l, c, zs, hcs, _, hl, hm, hz, _, hcell, hwz⟩
    · simp [Value.cells] at hcs
      obtain ⟨rfl, rfl, rfl⟩ := hcs
      exact ⟨[], .inl ⟨rfl, rfl, rfl, rfl⟩⟩
    · simp [Value.cells] at hcs
      obtain ⟨rfl, rfl, rfl⟩ := hcs
      exact ⟨zs, .inr ⟨_, rfl, hl, hm, by simpa using hz, hcell, hwz⟩⟩
  obtain ⟨a1, rfl, rfl, rfl, w1⟩ := open_int Try.underlying3 (hval 1 3 v1 rfl rfl) h1
  clear hA0 hval0
  refine (walk a0 len0 cap0 z0 a1 W w0 w1).mono fun e W' ⟨he, bel⟩ => ?_
  subst he
  exact ⟨_, rfl, _, _, _, [], _, [], hW', trodAll_mk1 (shut_bool Try.underlying4 _), (trodAll_cons_mk (Below.trod laidOut (by kernel_rfl) (of_decide_eq_true (by kernel_rfl)) k0 bel lt0) (trodAll_cons_mk (shut_int Try.underlying3 w1) trodAll_mk0)), rfl, bel.frame _, fun h => by cases h⟩

theorem over : Rows.quoPowersRow.holds Try.pinned (OpenSpec.ofChange Rows.quoPowersSpec) :=
  OpenClaim.holds_of_wide 5 Try.f5 rfl rfl rfl rfl rfl rfl rfl ⟨rfl, rfl, rfl, rfl, rfl⟩ rfl rfl rfl rfl rfl (by kernel_rfl) Try.func5 (by kernel_rfl)
    (of_decide_eq_true (by kernel_rfl)) (by unfold Func.isWrapper; first | (rw [if_pos (by decide +kernel)]; kernel_rfl) | (rw [if_neg (by decide +kernel)]; exact ⟨rfl, rfl⟩))
    (fun os started H enc _ => lifted os started H enc)

/-- ████ THE STATEMENT ████ -/
theorem proved : Rows.QuoPowersSaid := over
#print axioms proved
end Go.Proofs.Ytepndjcncmkkkaa.quoPowers
