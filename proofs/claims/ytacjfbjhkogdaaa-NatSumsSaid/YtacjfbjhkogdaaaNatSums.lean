/- The statement NatSums: the sum, and the difference, of any two naturals are the document's, or there is none; what is told may be written over. No condition. -/
import Derived.Test.YtacjfbjhkogdaaaRows
import Derived.WalkKit
import Derived.ProofKit
import Derived.OpenShut
import Derived.Test.YtacjfbjhkogdaaaNatEnd
import Derived.ShutString
import Derived.ChangeOld
import Derived.Below
namespace Go.Proofs.Ytacjfbjhkogdaaa.natSums
open Go.ChangeShapes Go.WideShapes Go.ChangeAt Go.RowKit
open Go.Proofs
open Go.ChangeMaps (open_string shut_string)
set_option linter.unusedVariables false

theorem own : ownKnob Try.prog.godebug = none := by kernel_rfl
theorem laidOut : laidOutB Try.prog = true := by kernel_rfl

/-- WHAT THE WALK IS TOLD OF A SLICE OF INTEGERS THAT CAME IN: it is nil; or it leads to a row of 'cap' cells, the numbers 'zs' (the first 'len' are its elements, the rest its spare room), each fitting its kind. -/
def IsRow (k : IntKind) (w : World) (a : Option Addr) (len cap : Nat) (zs : List Int) : Prop :=
  (a = none ∧ len = 0 ∧ cap = 0 ∧ zs = []) ∨
  ∃ x, a = some x ∧ len ≤ cap ∧ cap ≤ maxLen ∧ zs.length = cap ∧ (∀ i, i < zs.length → w.cell? (x.add i) = some (.int k (zs.getD i 0))) ∧ ∀ n ∈ zs, (Lit.int k n).wf = true

open Go.Proofs.NP Go.Proofs.SL Go.Proofs.NR Go.Lib
set_option linter.unusedSimpArgs false

/-! ### STEP 1: THE WALK: the Go text returns true, AND WRITES NOTHING THAT WAS THERE: 'Below w.heap.size w w'' (Derived/Below.lean: '.refl', '.alloc', '.drew', '.setCell' at a new block, '.trans'). Open each 'IsRow' by 'rcases' AHEAD of 'go_enter'; part every test ahead of the walk. -/
set_option maxHeartbeats 8000000 in
set_option maxRecDepth 100000 in
theorem walk (a0 : Option Addr) (len0 cap0 : Nat) (z0 : List Int) (a1 : Option Addr) (len1 cap1 : Nat) (z1 : List Int) (w : World) (w0 : IsRow .u64 w a0 len0 cap0 z0) (w1 : IsRow .u64 w a1 len1 cap1 z1) :
    Calls Try.prog 3 #[.slice a0 len0 cap0, .slice a1 len1 cap1] w fun e w' => e = .returned (.bool true) ∧ Below w.heap.size w w' := by
  obtain ⟨xs, rfl, Sx⟩ := LN.rows w0
  obtain ⟨ys, rfl, Sy⟩ := LN.rows w1
  have K : Kp w w := Kp.refl w
  clear w0 w1
  by_cases hs : ¬ (xs.length ≤ 24 ∧ ys.length ≤ 24)
  · have hz : true = (decide (24 < xs.length) || decide (24 < ys.length)) := by simp; omega
    clear hs
    have HZ := Lib.hid hz; clear hz
    go_enter Try.func3, Try.ntmps3
    go_wp2_with fail
    refine (LN.long2 (by simp) true HZ).mono ?_; rintro e w' ⟨rfl, rfl⟩
    go_wp2_with fail
    refine (LN.awake _).mono ?_; rintro e u1 ⟨rfl, hb⟩
    replace Sx : Rd u1 a0 cap0 (xs) := Rd.nx (by repeat (first | with_reducible exact Sx | with_reducible apply Rd.al | with_reducible apply Rd.dr | with_reducible apply Rd.dr1)) hb
    replace Sy : Rd u1 a1 cap1 (ys) := Rd.nx (by repeat (first | with_reducible exact Sy | with_reducible apply Rd.al | with_reducible apply Rd.dr | with_reducible apply Rd.dr1)) hb
    replace K : Kp w u1 := Kp.nx (by repeat (first | with_reducible exact K | with_reducible apply Kp.al | with_reducible apply Kp.dr | with_reducible apply Kp.dr1)) hb
    clear hb
    go_wp2_with fail
    go_ret
    exact ⟨rfl, Kp.below (by repeat (first | with_reducible exact K | with_reducible apply Kp.al | with_reducible apply Kp.dr | with_reducible apply Kp.dr1))⟩
  obtain ⟨n0, n1⟩ : xs.length ≤ 24 ∧ ys.length ≤ 24 := by omega
  clear hs
  have fx : Fits (V xs) 24 := Fits.of Sx.ws (by omega)
  have fy : Fits (V ys) 24 := Fits.of Sy.ws (by omega)
  have hz : false = (decide (24 < xs.length) || decide (24 < ys.length)) := by simp; omega
  have HZ := Lib.hid hz; clear hz
  obtain ⟨js, hjs⟩ : ∃ z, z = L (V xs + V ys) := ⟨_, rfl⟩
  have ls : js.length ≤ 49 := by rw [hjs]; exact (fx.add fy).len
  have Hjs := Lib.hid hjs; clear hjs
  obtain ⟨jd, hjd⟩ : ∃ z, z = RN.subL (V xs) (V ys) := ⟨_, rfl⟩
  have ld : jd.length ≤ 24 := by rw [hjd]; exact RN.subL_len fx
  have Hjd := Lib.hid hjd; clear hjd
  obtain ⟨je, hje⟩ : ∃ z, z = RN.subE (V xs) (V ys) := ⟨_, rfl⟩
  have Hje := Lib.hid hje; clear hje
  clear fx fy
  go_enter Try.func3, Try.ntmps3
  go_wp2_with fail
  refine (LN.long2 (by simp) false HZ).mono ?_; rintro e w' ⟨rfl, rfl⟩
  go_wp2_with fail
  refine (RN.add (zs := js) (xs := xs) (ys := ys) (by repeat (first | with_reducible exact Sx | with_reducible apply Rd.al | with_reducible apply Rd.dr | with_reducible apply Rd.dr1)) (by repeat (first | with_reducible exact Sy | with_reducible apply Rd.al | with_reducible apply Rd.dr | with_reducible apply Rd.dr1)) rfl rfl (by omega) (by omega) Hjs.out).mono ?_; rintro e u1 ⟨pa, qa, rfl, ho, hb⟩
  replace Sx : Rd u1 a0 cap0 (xs) := Rd.nx (by repeat (first | with_reducible exact Sx | with_reducible apply Rd.al | with_reducible apply Rd.dr | with_reducible apply Rd.dr1)) hb
  replace Sy : Rd u1 a1 cap1 (ys) := Rd.nx (by repeat (first | with_reducible exact Sy | with_reducible apply Rd.al | with_reducible apply Rd.dr | with_reducible apply Rd.dr1)) hb
  replace K : Kp w u1 := Kp.nx (by repeat (first | with_reducible exact K | with_reducible apply Kp.al | with_reducible apply Kp.dr | with_reducible apply Kp.dr1)) hb
  have Sa : Rd u1 pa qa (js) := ho.rd
  clear ho hb
  go_wp2_with fail
  refine (RN.sub2 (zs := jd) (xs := xs) (ys := ys) (by repeat (first | with_reducible exact Sx | with_reducible apply Rd.al | with_reducible apply Rd.dr | with_reducible apply Rd.dr1)) (by repeat (first | with_reducible exact Sy | with_reducible apply Rd.al | with_reducible apply Rd.dr | with_reducible apply Rd.dr1)) rfl rfl (by omega) (by omega) je Hjd.out Hje.out).mono ?_; rintro e u2 ⟨pd, qd, rfl, ho, hb⟩
  replace Sx : Rd u2 a0 cap0 (xs) := Rd.nx (by repeat (first | with_reducible exact Sx | with_reducible apply Rd.al | with_reducible apply Rd.dr | with_reducible apply Rd.dr1)) hb
  replace Sy : Rd u2 a1 cap1 (ys) := Rd.nx (by repeat (first | with_reducible exact Sy | with_reducible apply Rd.al | with_reducible apply Rd.dr | with_reducible apply Rd.dr1)) hb
  replace Sa : Rd u2 pa qa (js) := Rd.nx (by repeat (first | with_reducible exact Sa | with_reducible apply Rd.al | with_reducible apply Rd.dr | with_reducible apply Rd.dr1)) hb
  replace K : Kp w u2 := Kp.nx (by repeat (first | with_reducible exact K | with_reducible apply Kp.al | with_reducible apply Kp.dr | with_reducible apply Kp.dr1)) hb
  have Sd : Rd u2 pd qd (jd) := ho.rd
  clear ho hb
  go_wp2_with fail
  go_loopw [8] (fun s wr => ∃ i : Nat, s = .int .i64 i ∧ i ≤ 2 ∧ Kp u2 wr) (fun s _ => 2 - (intOf s).toNat)
  case atStart => exact ⟨0, rfl, by omega, Kp.refl _⟩
  case round =>
    obtain ⟨i, rfl, hi, Kr⟩ := hrel
    replace Sx : Rd wr a0 cap0 (xs) := Rd.nx Sx Kr
    replace Sy : Rd wr a1 cap1 (ys) := Rd.nx Sy Kr
    replace Sa : Rd wr pa qa (js) := Rd.nx Sa Kr
    replace Sd : Rd wr pd qd (jd) := Rd.nx Sd Kr
    have K0 := Lib.hid (Kp.nx K Kr)
    have KR := Lib.hid Kr; clear K Kr
    obtain ⟨wo, rfl⟩ : ∃ wo : World, wo = wr := ⟨_, rfl⟩
    by_cases hlt : i < 2
    · have K : Kp wo wo := Kp.refl _
      have Bx : Rd wo a0 cap0 (xs) := (by repeat (first | with_reducible exact Sx | with_reducible apply Rd.al | with_reducible apply Rd.dr | with_reducible apply Rd.dr1))
      have By : Rd wo a1 cap1 (ys) := (by repeat (first | with_reducible exact Sy | with_reducible apply Rd.al | with_reducible apply Rd.dr | with_reducible apply Rd.dr1))
      have Ba : Rd wo pa qa (js) := (by repeat (first | with_reducible exact Sa | with_reducible apply Rd.al | with_reducible apply Rd.dr | with_reducible apply Rd.dr1))
      have Bd : Rd wo pd qd (jd) := (by repeat (first | with_reducible exact Sd | with_reducible apply Rd.al | with_reducible apply Rd.dr | with_reducible apply Rd.dr1))
      go_wp2_with fail
      refine (NR.add (zs := js) (xs := xs) (ys := ys) (by repeat (first | with_reducible exact Sx | with_reducible apply Rd.al | with_reducible apply Rd.dr | with_reducible apply Rd.dr1)) (by repeat (first | with_reducible exact Sy | with_reducible apply Rd.al | with_reducible apply Rd.dr | with_reducible apply Rd.dr1)) rfl rfl (by omega) (by omega) Hjs.out).mono ?_; rintro e u11 ⟨px1, qx1, rfl, ho, hb⟩
      have Gx1 : ∀ k, blk px1 = some k → wo.heap.size ≤ k := RN.Own.from' ho (Below.size (show Kp wo _ from (by repeat (first | with_reducible exact K | with_reducible apply Kp.al | with_reducible apply Kp.dr | with_reducible apply Kp.dr1))))
      replace Sx : Rd u11 a0 cap0 (xs) := Rd.nx (by repeat (first | with_reducible exact Sx | with_reducible apply Rd.al | with_reducible apply Rd.dr | with_reducible apply Rd.dr1)) hb
      replace Sy : Rd u11 a1 cap1 (ys) := Rd.nx (by repeat (first | with_reducible exact Sy | with_reducible apply Rd.al | with_reducible apply Rd.dr | with_reducible apply Rd.dr1)) hb
      replace Sa : Rd u11 pa qa (js) := Rd.nx (by repeat (first | with_reducible exact Sa | with_reducible apply Rd.al | with_reducible apply Rd.dr | with_reducible apply Rd.dr1)) hb
      replace Sd : Rd u11 pd qd (jd) := Rd.nx (by repeat (first | with_reducible exact Sd | with_reducible apply Rd.al | with_reducible apply Rd.dr | with_reducible apply Rd.dr1)) hb
      replace K : Kp wo u11 := Kp.nx (by repeat (first | with_reducible exact K | with_reducible apply Kp.al | with_reducible apply Kp.dr | with_reducible apply Kp.dr1)) hb
      have Ox1 : Own 34 _ u11 px1 qx1 js := ho
      have Sx1 : Rd u11 px1 qx1 (js) := ho.rd
      clear ho hb
      go_wp2_with fail
      refine (RN.sub1 (zs := jd) (xs := xs) (ys := ys) (by repeat (first | with_reducible exact Sx | with_reducible apply Rd.al | with_reducible apply Rd.dr | with_reducible apply Rd.dr1)) (by repeat (first | with_reducible exact Sy | with_reducible apply Rd.al | with_reducible apply Rd.dr | with_reducible apply Rd.dr1)) rfl rfl (by omega) (by omega) je Hjd.out Hje.out).mono ?_; rintro e u12 ⟨py1, qy1, rfl, ho, hb⟩
      have Gy1 : ∀ k, blk py1 = some k → wo.heap.size ≤ k := RN.Own.from' ho (Below.size (show Kp wo _ from (by repeat (first | with_reducible exact K | with_reducible apply Kp.al | with_reducible apply Kp.dr | with_reducible apply Kp.dr1))))
      have Ay1x1 := RN.Own.apart (by repeat (first | with_reducible exact Ox1 | with_reducible apply Own.al | with_reducible apply Own.dr)) ho (Nat.le_refl _)
      replace Sx : Rd u12 a0 cap0 (xs) := Rd.nx (by repeat (first | with_reducible exact Sx | with_reducible apply Rd.al | with_reducible apply Rd.dr | with_reducible apply Rd.dr1)) hb
      replace Sy : Rd u12 a1 cap1 (ys) := Rd.nx (by repeat (first | with_reducible exact Sy | with_reducible apply Rd.al | with_reducible apply Rd.dr | with_reducible apply Rd.dr1)) hb
      replace Sa : Rd u12 pa qa (js) := Rd.nx (by repeat (first | with_reducible exact Sa | with_reducible apply Rd.al | with_reducible apply Rd.dr | with_reducible apply Rd.dr1)) hb
      replace Sd : Rd u12 pd qd (jd) := Rd.nx (by repeat (first | with_reducible exact Sd | with_reducible apply Rd.al | with_reducible apply Rd.dr | with_reducible apply Rd.dr1)) hb
      replace Sx1 : Rd u12 px1 qx1 (js) := Rd.nx (by repeat (first | with_reducible exact Sx1 | with_reducible apply Rd.al | with_reducible apply Rd.dr | with_reducible apply Rd.dr1)) hb
      replace K : Kp wo u12 := Kp.nx (by repeat (first | with_reducible exact K | with_reducible apply Kp.al | with_reducible apply Kp.dr | with_reducible apply Kp.dr1)) hb
      replace Ox1 : Own 34 _ u12 px1 qx1 js := Own.nx (by repeat (first | with_reducible exact Ox1 | with_reducible apply Own.al | with_reducible apply Own.dr)) hb
      have Oy1 : Own 34 _ u12 py1 qy1 jd := ho
      have Sy1 : Rd u12 py1 qy1 (jd) := ho.rd
      clear ho hb
      go_wp2_with fail
      refine (NR.same_yes (xs := js) (ys := js) (by repeat (first | with_reducible exact Sx1 | with_reducible apply Rd.al | with_reducible apply Rd.dr | with_reducible apply Rd.dr1)) (by repeat (first | with_reducible exact Sa | with_reducible apply Rd.al | with_reducible apply Rd.dr | with_reducible apply Rd.dr1)) rfl rfl (by omega) rfl).mono ?_; rintro e u13 ⟨rfl, hb⟩
      replace Sx : Rd u13 a0 cap0 (xs) := Rd.nx (by repeat (first | with_reducible exact Sx | with_reducible apply Rd.al | with_reducible apply Rd.dr | with_reducible apply Rd.dr1)) hb
      replace Sy : Rd u13 a1 cap1 (ys) := Rd.nx (by repeat (first | with_reducible exact Sy | with_reducible apply Rd.al | with_reducible apply Rd.dr | with_reducible apply Rd.dr1)) hb
      replace Sa : Rd u13 pa qa (js) := Rd.nx (by repeat (first | with_reducible exact Sa | with_reducible apply Rd.al | with_reducible apply Rd.dr | with_reducible apply Rd.dr1)) hb
      replace Sd : Rd u13 pd qd (jd) := Rd.nx (by repeat (first | with_reducible exact Sd | with_reducible apply Rd.al | with_reducible apply Rd.dr | with_reducible apply Rd.dr1)) hb
      replace Sx1 : Rd u13 px1 qx1 (js) := Rd.nx (by repeat (first | with_reducible exact Sx1 | with_reducible apply Rd.al | with_reducible apply Rd.dr | with_reducible apply Rd.dr1)) hb
      replace Sy1 : Rd u13 py1 qy1 (jd) := Rd.nx (by repeat (first | with_reducible exact Sy1 | with_reducible apply Rd.al | with_reducible apply Rd.dr | with_reducible apply Rd.dr1)) hb
      replace K : Kp wo u13 := Kp.nx (by repeat (first | with_reducible exact K | with_reducible apply Kp.al | with_reducible apply Kp.dr | with_reducible apply Kp.dr1)) hb
      replace Ox1 : Own 34 _ u13 px1 qx1 js := Own.nx (by repeat (first | with_reducible exact Ox1 | with_reducible apply Own.al | with_reducible apply Own.dr)) hb
      replace Oy1 : Own 34 _ u13 py1 qy1 jd := Own.nx (by repeat (first | with_reducible exact Oy1 | with_reducible apply Own.al | with_reducible apply Own.dr)) hb
      clear hb
      go_wp2_with fail
      refine (NR.same_yes (xs := jd) (ys := jd) (by repeat (first | with_reducible exact Sy1 | with_reducible apply Rd.al | with_reducible apply Rd.dr | with_reducible apply Rd.dr1)) (by repeat (first | with_reducible exact Sd | with_reducible apply Rd.al | with_reducible apply Rd.dr | with_reducible apply Rd.dr1)) rfl rfl (by omega) rfl).mono ?_; rintro e u14 ⟨rfl, hb⟩
      replace Sx : Rd u14 a0 cap0 (xs) := Rd.nx (by repeat (first | with_reducible exact Sx | with_reducible apply Rd.al | with_reducible apply Rd.dr | with_reducible apply Rd.dr1)) hb
      replace Sy : Rd u14 a1 cap1 (ys) := Rd.nx (by repeat (first | with_reducible exact Sy | with_reducible apply Rd.al | with_reducible apply Rd.dr | with_reducible apply Rd.dr1)) hb
      replace Sa : Rd u14 pa qa (js) := Rd.nx (by repeat (first | with_reducible exact Sa | with_reducible apply Rd.al | with_reducible apply Rd.dr | with_reducible apply Rd.dr1)) hb
      replace Sd : Rd u14 pd qd (jd) := Rd.nx (by repeat (first | with_reducible exact Sd | with_reducible apply Rd.al | with_reducible apply Rd.dr | with_reducible apply Rd.dr1)) hb
      replace Sx1 : Rd u14 px1 qx1 (js) := Rd.nx (by repeat (first | with_reducible exact Sx1 | with_reducible apply Rd.al | with_reducible apply Rd.dr | with_reducible apply Rd.dr1)) hb
      replace Sy1 : Rd u14 py1 qy1 (jd) := Rd.nx (by repeat (first | with_reducible exact Sy1 | with_reducible apply Rd.al | with_reducible apply Rd.dr | with_reducible apply Rd.dr1)) hb
      replace K : Kp wo u14 := Kp.nx (by repeat (first | with_reducible exact K | with_reducible apply Kp.al | with_reducible apply Kp.dr | with_reducible apply Kp.dr1)) hb
      replace Ox1 : Own 34 _ u14 px1 qx1 js := Own.nx (by repeat (first | with_reducible exact Ox1 | with_reducible apply Own.al | with_reducible apply Own.dr)) hb
      replace Oy1 : Own 34 _ u14 py1 qy1 jd := Own.nx (by repeat (first | with_reducible exact Oy1 | with_reducible apply Own.al | with_reducible apply Own.dr)) hb
      clear hb
      go_wp2_with fail
      refine (RN.spoil (xs := js) Ox1 rfl (by omega)).mono ?_; rintro e u15 ⟨rfl, hg⟩
      replace K : Kp wo u15 := Kp.grown K hg Gx1
      replace Sx : Rd u15 a0 cap0 (xs) := Rd.nx Bx K
      replace Sy : Rd u15 a1 cap1 (ys) := Rd.nx By K
      replace Sa : Rd u15 pa qa (js) := Rd.nx Ba K
      replace Sd : Rd u15 pd qd (jd) := Rd.nx Bd K
      clear Sx1
      replace Oy1 : Own 34 _ u15 py1 qy1 jd := Own.kept Oy1 hg Ay1x1
      replace Sy1 : Rd u15 py1 qy1 (jd) := Oy1.rd
      clear hg Ox1 Gx1
      go_wp2_with fail
      refine (RN.spoil (xs := jd) Oy1 rfl (by omega)).mono ?_; rintro e u16 ⟨rfl, hg⟩
      replace K : Kp wo u16 := Kp.grown K hg Gy1
      replace Sx : Rd u16 a0 cap0 (xs) := Rd.nx Bx K
      replace Sy : Rd u16 a1 cap1 (ys) := Rd.nx By K
      replace Sa : Rd u16 pa qa (js) := Rd.nx Ba K
      replace Sd : Rd u16 pd qd (jd) := Rd.nx Bd K
      clear Sy1
      clear hg Oy1 Gy1
      go_wp2_with fail
      refine (NR.add (zs := js) (xs := xs) (ys := ys) (by repeat (first | with_reducible exact Sx | with_reducible apply Rd.al | with_reducible apply Rd.dr | with_reducible apply Rd.dr1)) (by repeat (first | with_reducible exact Sy | with_reducible apply Rd.al | with_reducible apply Rd.dr | with_reducible apply Rd.dr1)) rfl rfl (by omega) (by omega) Hjs.out).mono ?_; rintro e u17 ⟨pz1, qz1, rfl, ho, hb⟩
      replace Sx : Rd u17 a0 cap0 (xs) := Rd.nx (by repeat (first | with_reducible exact Sx | with_reducible apply Rd.al | with_reducible apply Rd.dr | with_reducible apply Rd.dr1)) hb
      replace Sy : Rd u17 a1 cap1 (ys) := Rd.nx (by repeat (first | with_reducible exact Sy | with_reducible apply Rd.al | with_reducible apply Rd.dr | with_reducible apply Rd.dr1)) hb
      replace Sa : Rd u17 pa qa (js) := Rd.nx (by repeat (first | with_reducible exact Sa | with_reducible apply Rd.al | with_reducible apply Rd.dr | with_reducible apply Rd.dr1)) hb
      replace Sd : Rd u17 pd qd (jd) := Rd.nx (by repeat (first | with_reducible exact Sd | with_reducible apply Rd.al | with_reducible apply Rd.dr | with_reducible apply Rd.dr1)) hb
      replace K : Kp wo u17 := Kp.nx (by repeat (first | with_reducible exact K | with_reducible apply Kp.al | with_reducible apply Kp.dr | with_reducible apply Kp.dr1)) hb
      have Sz1 : Rd u17 pz1 qz1 (js) := ho.rd
      clear ho hb
      go_wp2_with fail
      refine (NR.same_yes (xs := js) (ys := js) (by repeat (first | with_reducible exact Sz1 | with_reducible apply Rd.al | with_reducible apply Rd.dr | with_reducible apply Rd.dr1)) (by repeat (first | with_reducible exact Sa | with_reducible apply Rd.al | with_reducible apply Rd.dr | with_reducible apply Rd.dr1)) rfl rfl (by omega) rfl).mono ?_; rintro e u18 ⟨rfl, hb⟩
      replace Sx : Rd u18 a0 cap0 (xs) := Rd.nx (by repeat (first | with_reducible exact Sx | with_reducible apply Rd.al | with_reducible apply Rd.dr | with_reducible apply Rd.dr1)) hb
      replace Sy : Rd u18 a1 cap1 (ys) := Rd.nx (by repeat (first | with_reducible exact Sy | with_reducible apply Rd.al | with_reducible apply Rd.dr | with_reducible apply Rd.dr1)) hb
      replace Sa : Rd u18 pa qa (js) := Rd.nx (by repeat (first | with_reducible exact Sa | with_reducible apply Rd.al | with_reducible apply Rd.dr | with_reducible apply Rd.dr1)) hb
      replace Sd : Rd u18 pd qd (jd) := Rd.nx (by repeat (first | with_reducible exact Sd | with_reducible apply Rd.al | with_reducible apply Rd.dr | with_reducible apply Rd.dr1)) hb
      replace Sz1 : Rd u18 pz1 qz1 (js) := Rd.nx (by repeat (first | with_reducible exact Sz1 | with_reducible apply Rd.al | with_reducible apply Rd.dr | with_reducible apply Rd.dr1)) hb
      replace K : Kp wo u18 := Kp.nx (by repeat (first | with_reducible exact K | with_reducible apply Kp.al | with_reducible apply Kp.dr | with_reducible apply Kp.dr1)) hb
      clear hb
      go_wp2_with fail
      go_roundw
      case rel => exact ⟨i + 1, by go_num, by omega, Kp.nx KR.out (by repeat (first | with_reducible exact K | with_reducible apply Kp.al | with_reducible apply Kp.dr | with_reducible apply Kp.dr1))⟩
      case measure => simp [intOf]; omega
    · have K := K0.out
      go_wp2_with fail
      refine (LN.awake _).mono ?_; rintro e u31 ⟨rfl, hb⟩
      replace K : Kp w u31 := Kp.nx (by repeat (first | with_reducible exact K | with_reducible apply Kp.al | with_reducible apply Kp.dr | with_reducible apply Kp.dr1)) hb
      clear hb
      go_wp2_with fail
      go_ret
      exact ⟨rfl, Kp.below (by repeat (first | with_reducible exact K | with_reducible apply Kp.al | with_reducible apply Kp.dr | with_reducible apply Kp.dr1))⟩

/-! ### THE ROW's STEP: WRITTEN OUT: LEAVE IT -/
set_option maxRecDepth 100000 in
theorem lifted (os : Os) (started : os.Started) (H : Type) (enc : TypeId × Value → H) :
    ReturnsInHanded {} Try.checked os 3 .any (Rows.natSumsSpec.pre6 enc Try.prog Try.f3 Rows.natSumsRow.domain false) (Rows.natSumsSpec.post enc Try.prog Try.f3 false true false false) := by
  refine returnsInHanded_of_change (C := Try.checked) own started (by kernel_rfl) Try.func3
    (ChangeSpec.witness6 (enc := enc) (C := Try.checked) false ⟨#[], #[.slice none 0 0, .slice none 0 0], []⟩ 8 (by kernel_rfl) (by kernel_rfl) (by kernel_rfl) (by kernel_rfl)) ?_
  intro W base args ds gs before hval0 hW hcnd _
  have hval : ∀ (j : Nat) t v, Try.f3.params[j]? = some t → args[j]? = some v → Value.okWide Try.prog W .any base t v := hval0
  have hW' := hW
  obtain ⟨p, q, hA0, hV, rfl, hfz, hnd⟩ := hW
  have hA : DataW.TrodAll enc Try.prog W 0 (fun _ => true) true Try.f3.params.toList args.toList ds p := hA0
  rw [Try.params3] at hA hval
  obtain ⟨v0, vs0, d0, ds0, p0, q0, hargs, rfl, rfl, h0, r0⟩ := trodAll_cons hA
  obtain ⟨v1, vs1, d1, ds1, p1, q1, rfl, rfl, rfl, h1, r1⟩ := trodAll_cons r0
  obtain ⟨rfl, rfl, rfl⟩ := trodAll_nil r1
  obtain rfl : args = #[v0, v1] := by cases args; simp_all
  obtain ⟨rfl, rfl⟩ := trodVars_none hV
  obtain ⟨a0, len0, cap0, rfl⟩ := okWide_slice Try.underlying23 (hval 0 23 v0 rfl rfl)
  have k0 := h0
  have lt0 : ∀ x ∈ p0, x.block < W.heap.size := by obtain ⟨m, hm⟩ := k0; exact DataW.trod_lt m _ _ _ hm
  obtain ⟨z0, w0⟩ : ∃ zs, IsRow .u64 W a0 len0 cap0 zs := by
    obtain ⟨fuel, hf⟩ := h0
    rcases open_ints Try.underlying23 Try.underlying34 (by kernel_rfl) hf with ⟨hcs, _⟩ | ⟨x, l, c, zs, hcs, _, hl, hm, hz, _, hcell, hwz⟩
    · simp [Value.cells] at hcs
      obtain ⟨rfl, rfl, rfl⟩ := hcs
      exact ⟨[], .inl ⟨rfl, rfl, rfl, rfl⟩⟩
    · simp [Value.cells] at hcs
      obtain ⟨rfl, rfl, rfl⟩ := hcs
      exact ⟨zs, .inr ⟨_, rfl, hl, hm, by simpa using hz, hcell, hwz⟩⟩
  obtain ⟨a1, len1, cap1, rfl⟩ := okWide_slice Try.underlying23 (hval 1 23 v1 rfl rfl)
  have k1 := h1
  have lt1 : ∀ x ∈ p1, x.block < W.heap.size := by obtain ⟨m, hm⟩ := k1; exact DataW.trod_lt m _ _ _ hm
  obtain ⟨z1, w1⟩ : ∃ zs, IsRow .u64 W a1 len1 cap1 zs := by
    obtain ⟨fuel, hf⟩ := h1
    rcases open_ints Try.underlying23 Try.underlying34 (by kernel_rfl) hf with ⟨hcs, _⟩ | ⟨x, l, c, zs, hcs, _, hl, hm, hz, _, hcell, hwz⟩
    · simp [Value.cells] at hcs
      obtain ⟨rfl, rfl, rfl⟩ := hcs
      exact ⟨[], .inl ⟨rfl, rfl, rfl, rfl⟩⟩
    · simp [Value.cells] at hcs
      obtain ⟨rfl, rfl, rfl⟩ := hcs
      exact ⟨zs, .inr ⟨_, rfl, hl, hm, by simpa using hz, hcell, hwz⟩⟩
  clear hA0 hval0
  refine (walk a0 len0 cap0 z0 a1 len1 cap1 z1 W w0 w1).mono fun e W' ⟨he, bel⟩ => ?_
  subst he
  exact ⟨_, rfl, _, _, _, [], _, [], hW', trodAll_mk1 (shut_bool Try.underlying4 _), (trodAll_cons_mk (Below.trod laidOut (by kernel_rfl) (of_decide_eq_true (by kernel_rfl)) k0 bel lt0) (trodAll_cons_mk (Below.trod laidOut (by kernel_rfl) (of_decide_eq_true (by kernel_rfl)) k1 bel lt1) trodAll_mk0)), rfl, bel.frame _, fun h => by cases h⟩

theorem over : Rows.natSumsRow.holds Try.pinned (OpenSpec.ofChange Rows.natSumsSpec) :=
  OpenClaim.holds_of_wide 3 Try.f3 rfl rfl rfl rfl rfl rfl rfl ⟨rfl, rfl, rfl, rfl, rfl⟩ rfl rfl rfl rfl rfl (by kernel_rfl) Try.func3 (by kernel_rfl)
    (of_decide_eq_true (by kernel_rfl)) (by unfold Func.isWrapper; first | (rw [if_pos (by decide +kernel)]; kernel_rfl) | (rw [if_neg (by decide +kernel)]; exact ⟨rfl, rfl⟩))
    (fun os started H enc _ => lifted os started H enc)

/-- ████ THE STATEMENT ████ -/
theorem proved : Rows.NatSumsSaid := over
#print axioms proved
end Go.Proofs.Ytacjfbjhkogdaaa.natSums
