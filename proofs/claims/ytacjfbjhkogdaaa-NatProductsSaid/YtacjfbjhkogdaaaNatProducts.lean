/- The statement NatProducts: the product of any two naturals, and any natural shifted by any number of places, are the document's, or it is refused; what is told may be written over. No condition. -/
import Derived.Test.YtacjfbjhkogdaaaRows
import Derived.WalkKit
import Derived.ProofKit
import Derived.OpenShut
import Derived.Test.YtacjfbjhkogdaaaNatEnd
import Derived.ShutString
import Derived.ChangeOld
import Derived.Below
namespace Go.Proofs.Ytacjfbjhkogdaaa.natProducts
open Go.ChangeShapes Go.WideShapes Go.ChangeAt Go.RowKit
open Go.Proofs
open Go.ChangeMaps (open_string shut_string)
set_option linter.unusedVariables false

theorem own : ownKnob Try.prog.godebug = none := by kernel_rfl
theorem laidOut : laidOutB Try.prog = true := by kernel_rfl

/-- WHAT THE WALK IS TOLD OF A SLICE OF INTEGERS THAT CAME IN: it is nil; or it leads to a row of 'cap' cells, the numbers 'zs' (the first 'len' are its elements, the rest its spare room), each fitting its kind. -/
def IsRow (k : IntKind) (w : World) (a : Option Addr) (len cap : Nat) (zs : List Int) : Prop :=
  (a = none ∧ len = 0 ∧ cap = 0 ∧ zs = []) ∨
  ∃ x, a = some x ∧ len ≤ cap ∧ cap ≤ maxLen ∧ zs.length = cap ∧ (∀ i, i < zs.length → w.cell? (x.add i) = some (.int k (zs.getD i 0))) ∧ ∀ n ∈ zs, (Lit.int k n).wf = true

open Go.Proofs.NP Go.Proofs.SL Go.Proofs.NR Go.Lib
set_option linter.unusedSimpArgs false

/-! ### STEP 1: THE WALK: the Go text returns true, AND WRITES NOTHING THAT WAS THERE: 'Below w.heap.size w w'' (Derived/Below.lean: '.refl', '.alloc', '.drew', '.setCell' at a new block, '.trans'). Open each 'IsRow' by 'rcases' AHEAD of 'go_enter'; part every test ahead of the walk. -/
set_option maxHeartbeats 16000000 in
set_option maxRecDepth 100000 in
theorem walk (a0 : Option Addr) (len0 cap0 : Nat) (z0 : List Int) (a1 : Option Addr) (len1 cap1 : Nat) (z1 : List Int) (a2 : Int) (w : World) (w0 : IsRow .u64 w a0 len0 cap0 z0) (w1 : IsRow .u64 w a1 len1 cap1 z1) (w2 : (Lit.int .i64 a2).wf = true) :
    Calls Try.prog 7 #[.slice a0 len0 cap0, .slice a1 len1 cap1, .int .i64 a2] w fun e w' => e = .returned (.bool true) ∧ Below w.heap.size w w' := by
  obtain ⟨xs, rfl, Sx⟩ := LN.rows w0
  obtain ⟨ys, rfl, Sy⟩ := LN.rows w1
  have K : Kp w w := Kp.refl w
  clear w0 w1
  by_cases hs : ¬ (xs.length ≤ 24 ∧ ys.length ≤ 24)
  · have hz : true = (decide (24 < xs.length) || decide (24 < ys.length)) := by simp; omega
    clear hs
    have HZ := Lib.hid hz; clear hz
    go_enter Try.func7, Try.ntmps7
    go_wp2_with fail
    refine (LN.long2 (by simp) true HZ).mono ?_; rintro e w' ⟨rfl, rfl⟩
    go_wp2_with fail
    refine (LN.awake _).mono ?_; rintro e u1 ⟨rfl, hb⟩
    replace Sx : Rd u1 a0 cap0 (xs) := Rd.nx (by repeat (first | with_reducible exact Sx | with_reducible apply Rd.al | with_reducible apply Rd.dr | with_reducible apply Rd.dr1)) hb
    replace Sy : Rd u1 a1 cap1 (ys) := Rd.nx (by repeat (first | with_reducible exact Sy | with_reducible apply Rd.al | with_reducible apply Rd.dr | with_reducible apply Rd.dr1)) hb
    replace K : Kp w u1 := Kp.nx (by repeat (first | with_reducible exact K | with_reducible apply Kp.al | with_reducible apply Kp.dr | with_reducible apply Kp.dr1)) hb
    clear hb
    go_wp2_with fail
    go_ret
    exact ⟨rfl, Kp.below (by repeat (first | with_reducible exact K | with_reducible apply Kp.al | with_reducible apply Kp.dr | with_reducible apply Kp.dr1))⟩
  obtain ⟨n0, n1⟩ : xs.length ≤ 24 ∧ ys.length ≤ 24 := by omega
  clear hs
  have hz : false = (decide (24 < xs.length) || decide (24 < ys.length)) := by simp; omega
  have HZ := Lib.hid hz; clear hz
  by_cases hb : 2000 < a2 ∧ a2 ≤ 65536
  · obtain ⟨b1, b2⟩ := hb
    go_enter Try.func7, Try.ntmps7
    go_wp2_with fail
    refine (LN.long2 (by simp) false HZ).mono ?_; rintro e w' ⟨rfl, rfl⟩
    go_wp2_with fail
    refine (LN.awake _).mono ?_; rintro e u1 ⟨rfl, hb⟩
    replace Sx : Rd u1 a0 cap0 (xs) := Rd.nx (by repeat (first | with_reducible exact Sx | with_reducible apply Rd.al | with_reducible apply Rd.dr | with_reducible apply Rd.dr1)) hb
    replace Sy : Rd u1 a1 cap1 (ys) := Rd.nx (by repeat (first | with_reducible exact Sy | with_reducible apply Rd.al | with_reducible apply Rd.dr | with_reducible apply Rd.dr1)) hb
    replace K : Kp w u1 := Kp.nx (by repeat (first | with_reducible exact K | with_reducible apply Kp.al | with_reducible apply Kp.dr | with_reducible apply Kp.dr1)) hb
    clear hb
    go_wp2_with fail
    go_ret
    exact ⟨rfl, Kp.below (by repeat (first | with_reducible exact K | with_reducible apply Kp.al | with_reducible apply Kp.dr | with_reducible apply Kp.dr1))⟩
  have fx : Fits (V xs) 24 := Fits.of Sx.ws (by omega)
  have fy : Fits (V ys) 24 := Fits.of Sy.ws (by omega)
  obtain ⟨js, hjs⟩ : ∃ z, z = L (V xs * V ys) := ⟨_, rfl⟩
  have ls : js.length ≤ 48 := by rw [hjs]; exact (fx.mul fy).len
  have Hjs := Lib.hid hjs; clear hjs
  obtain ⟨jl, hjl⟩ : ∃ z, z = RN.shlL (V xs) a2 := ⟨_, rfl⟩
  have ll : jl.length ≤ 2024 := by
    rw [hjl]; by_cases h2 : a2 ≤ 2000
    · exact RN.shlL_len fx a2 h2
    · have : ¬ RN.shOk a2 := by unfold RN.shOk; omega
      rw [RN.shlL, if_neg this]; simp
  have Hjl := Lib.hid hjl; clear hjl
  obtain ⟨jr, hjr⟩ : ∃ z, z = RN.shrL (V xs) a2 := ⟨_, rfl⟩
  have lr : jr.length ≤ 24 := by rw [hjr]; exact RN.shrL_len fx a2
  have Hjr := Lib.hid hjr; clear hjr
  obtain ⟨je, hje⟩ : ∃ z, z = RN.shE a2 := ⟨_, rfl⟩
  have Hje := Lib.hid hje; clear hje
  clear fx fy
  rcases (show a2 ≤ 2000 ∨ 65536 < a2 by omega) with hb2 | hb2
  · clear hb
    go_enter Try.func7, Try.ntmps7
    go_wp2_with fail
    refine (LN.long2 (by simp) false HZ).mono ?_; rintro e w' ⟨rfl, rfl⟩
    go_wp2_with fail
    refine (RN.mul (zs := js) (xs := xs) (ys := ys) (by repeat (first | with_reducible exact Sx | with_reducible apply Rd.al | with_reducible apply Rd.dr | with_reducible apply Rd.dr1)) (by repeat (first | with_reducible exact Sy | with_reducible apply Rd.al | with_reducible apply Rd.dr | with_reducible apply Rd.dr1)) rfl rfl (by omega) (by omega) Hjs.out).mono ?_; rintro e u1 ⟨pa, qa, rfl, ho, hb⟩
    replace Sx : Rd u1 a0 cap0 (xs) := Rd.nx (by repeat (first | with_reducible exact Sx | with_reducible apply Rd.al | with_reducible apply Rd.dr | with_reducible apply Rd.dr1)) hb
    replace Sy : Rd u1 a1 cap1 (ys) := Rd.nx (by repeat (first | with_reducible exact Sy | with_reducible apply Rd.al | with_reducible apply Rd.dr | with_reducible apply Rd.dr1)) hb
    replace K : Kp w u1 := Kp.nx (by repeat (first | with_reducible exact K | with_reducible apply Kp.al | with_reducible apply Kp.dr | with_reducible apply Kp.dr1)) hb
    have Sa : Rd u1 pa qa (js) := ho.rd
    clear ho hb
    go_wp2_with fail
    refine (RN.shl2 (zs := jl) (xs := xs) (by repeat (first | with_reducible exact Sx | with_reducible apply Rd.al | with_reducible apply Rd.dr | with_reducible apply Rd.dr1)) rfl (by omega) a2 je Hjl.out Hje.out).mono ?_; rintro e u2 ⟨pd, qd, rfl, ho, hb⟩
    replace Sx : Rd u2 a0 cap0 (xs) := Rd.nx (by repeat (first | with_reducible exact Sx | with_reducible apply Rd.al | with_reducible apply Rd.dr | with_reducible apply Rd.dr1)) hb
    replace Sy : Rd u2 a1 cap1 (ys) := Rd.nx (by repeat (first | with_reducible exact Sy | with_reducible apply Rd.al | with_reducible apply Rd.dr | with_reducible apply Rd.dr1)) hb
    replace Sa : Rd u2 pa qa (js) := Rd.nx (by repeat (first | with_reducible exact Sa | with_reducible apply Rd.al | with_reducible apply Rd.dr | with_reducible apply Rd.dr1)) hb
    replace K : Kp w u2 := Kp.nx (by repeat (first | with_reducible exact K | with_reducible apply Kp.al | with_reducible apply Kp.dr | with_reducible apply Kp.dr1)) hb
    have Sd : Rd u2 pd qd (jl) := ho.rd
    clear ho hb
    go_wp2_with fail
    refine (RN.shr2 (zs := jr) (xs := xs) (by repeat (first | with_reducible exact Sx | with_reducible apply Rd.al | with_reducible apply Rd.dr | with_reducible apply Rd.dr1)) rfl (by omega) a2 je Hjr.out Hje.out).mono ?_; rintro e u3 ⟨pf, qf, rfl, ho, hb⟩
    replace Sx : Rd u3 a0 cap0 (xs) := Rd.nx (by repeat (first | with_reducible exact Sx | with_reducible apply Rd.al | with_reducible apply Rd.dr | with_reducible apply Rd.dr1)) hb
    replace Sy : Rd u3 a1 cap1 (ys) := Rd.nx (by repeat (first | with_reducible exact Sy | with_reducible apply Rd.al | with_reducible apply Rd.dr | with_reducible apply Rd.dr1)) hb
    replace Sa : Rd u3 pa qa (js) := Rd.nx (by repeat (first | with_reducible exact Sa | with_reducible apply Rd.al | with_reducible apply Rd.dr | with_reducible apply Rd.dr1)) hb
    replace Sd : Rd u3 pd qd (jl) := Rd.nx (by repeat (first | with_reducible exact Sd | with_reducible apply Rd.al | with_reducible apply Rd.dr | with_reducible apply Rd.dr1)) hb
    replace K : Kp w u3 := Kp.nx (by repeat (first | with_reducible exact K | with_reducible apply Kp.al | with_reducible apply Kp.dr | with_reducible apply Kp.dr1)) hb
    have Sf : Rd u3 pf qf (jr) := ho.rd
    clear ho hb
    go_wp2_with fail
    go_loopw [12] (fun s wr => ∃ i : Nat, s = .int .i64 i ∧ i ≤ 2 ∧ Kp u3 wr) (fun s _ => 2 - (intOf s).toNat)
    case atStart => exact ⟨0, rfl, by omega, Kp.refl _⟩
    case round =>
      obtain ⟨i, rfl, hi, Kr⟩ := hrel
      replace Sx : Rd wr a0 cap0 (xs) := Rd.nx Sx Kr
      replace Sy : Rd wr a1 cap1 (ys) := Rd.nx Sy Kr
      replace Sa : Rd wr pa qa (js) := Rd.nx Sa Kr
      replace Sd : Rd wr pd qd (jl) := Rd.nx Sd Kr
      replace Sf : Rd wr pf qf (jr) := Rd.nx Sf Kr
      have K0 := Lib.hid (Kp.nx K Kr)
      have KR := Lib.hid Kr; clear K Kr
      obtain ⟨wo, rfl⟩ : ∃ wo : World, wo = wr := ⟨_, rfl⟩
      by_cases hlt : i < 2
      · have K : Kp wo wo := Kp.refl _
        have Bx : Rd wo a0 cap0 (xs) := (by repeat (first | with_reducible exact Sx | with_reducible apply Rd.al | with_reducible apply Rd.dr | with_reducible apply Rd.dr1))
        have By : Rd wo a1 cap1 (ys) := (by repeat (first | with_reducible exact Sy | with_reducible apply Rd.al | with_reducible apply Rd.dr | with_reducible apply Rd.dr1))
        have Ba : Rd wo pa qa (js) := (by repeat (first | with_reducible exact Sa | with_reducible apply Rd.al | with_reducible apply Rd.dr | with_reducible apply Rd.dr1))
        have Bd : Rd wo pd qd (jl) := (by repeat (first | with_reducible exact Sd | with_reducible apply Rd.al | with_reducible apply Rd.dr | with_reducible apply Rd.dr1))
        have Bf : Rd wo pf qf (jr) := (by repeat (first | with_reducible exact Sf | with_reducible apply Rd.al | with_reducible apply Rd.dr | with_reducible apply Rd.dr1))
        go_wp2_with fail
        refine (NR.mul (zs := js) (xs := xs) (ys := ys) (by repeat (first | with_reducible exact Sx | with_reducible apply Rd.al | with_reducible apply Rd.dr | with_reducible apply Rd.dr1)) (by repeat (first | with_reducible exact Sy | with_reducible apply Rd.al | with_reducible apply Rd.dr | with_reducible apply Rd.dr1)) rfl rfl (by omega) (by omega) Hjs.out).mono ?_; rintro e u11 ⟨px1, qx1, rfl, ho, hb⟩
        have Gx1 : ∀ k, blk px1 = some k → wo.heap.size ≤ k := RN.Own.from' ho (Below.size (show Kp wo _ from (by repeat (first | with_reducible exact K | with_reducible apply Kp.al | with_reducible apply Kp.dr | with_reducible apply Kp.dr1))))
        replace Sx : Rd u11 a0 cap0 (xs) := Rd.nx (by repeat (first | with_reducible exact Sx | with_reducible apply Rd.al | with_reducible apply Rd.dr | with_reducible apply Rd.dr1)) hb
        replace Sy : Rd u11 a1 cap1 (ys) := Rd.nx (by repeat (first | with_reducible exact Sy | with_reducible apply Rd.al | with_reducible apply Rd.dr | with_reducible apply Rd.dr1)) hb
        replace Sa : Rd u11 pa qa (js) := Rd.nx (by repeat (first | with_reducible exact Sa | with_reducible apply Rd.al | with_reducible apply Rd.dr | with_reducible apply Rd.dr1)) hb
        replace Sd : Rd u11 pd qd (jl) := Rd.nx (by repeat (first | with_reducible exact Sd | with_reducible apply Rd.al | with_reducible apply Rd.dr | with_reducible apply Rd.dr1)) hb
        replace Sf : Rd u11 pf qf (jr) := Rd.nx (by repeat (first | with_reducible exact Sf | with_reducible apply Rd.al | with_reducible apply Rd.dr | with_reducible apply Rd.dr1)) hb
        replace K : Kp wo u11 := Kp.nx (by repeat (first | with_reducible exact K | with_reducible apply Kp.al | with_reducible apply Kp.dr | with_reducible apply Kp.dr1)) hb
        have Ox1 : Own 34 _ u11 px1 qx1 js := ho
        have Sx1 : Rd u11 px1 qx1 (js) := ho.rd
        clear ho hb
        go_wp2_with fail
        refine (RN.shl1 (zs := jl) (xs := xs) (by repeat (first | with_reducible exact Sx | with_reducible apply Rd.al | with_reducible apply Rd.dr | with_reducible apply Rd.dr1)) rfl (by omega) a2 je Hjl.out Hje.out).mono ?_; rintro e u12 ⟨py1, qy1, rfl, ho, hb⟩
        have Gy1 : ∀ k, blk py1 = some k → wo.heap.size ≤ k := RN.Own.from' ho (Below.size (show Kp wo _ from (by repeat (first | with_reducible exact K | with_reducible apply Kp.al | with_reducible apply Kp.dr | with_reducible apply Kp.dr1))))
        have Ay1x1 := RN.Own.apart (by repeat (first | with_reducible exact Ox1 | with_reducible apply Own.al | with_reducible apply Own.dr)) ho (Nat.le_refl _)
        replace Sx : Rd u12 a0 cap0 (xs) := Rd.nx (by repeat (first | with_reducible exact Sx | with_reducible apply Rd.al | with_reducible apply Rd.dr | with_reducible apply Rd.dr1)) hb
        replace Sy : Rd u12 a1 cap1 (ys) := Rd.nx (by repeat (first | with_reducible exact Sy | with_reducible apply Rd.al | with_reducible apply Rd.dr | with_reducible apply Rd.dr1)) hb
        replace Sa : Rd u12 pa qa (js) := Rd.nx (by repeat (first | with_reducible exact Sa | with_reducible apply Rd.al | with_reducible apply Rd.dr | with_reducible apply Rd.dr1)) hb
        replace Sd : Rd u12 pd qd (jl) := Rd.nx (by repeat (first | with_reducible exact Sd | with_reducible apply Rd.al | with_reducible apply Rd.dr | with_reducible apply Rd.dr1)) hb
        replace Sf : Rd u12 pf qf (jr) := Rd.nx (by repeat (first | with_reducible exact Sf | with_reducible apply Rd.al | with_reducible apply Rd.dr | with_reducible apply Rd.dr1)) hb
        replace Sx1 : Rd u12 px1 qx1 (js) := Rd.nx (by repeat (first | with_reducible exact Sx1 | with_reducible apply Rd.al | with_reducible apply Rd.dr | with_reducible apply Rd.dr1)) hb
        replace K : Kp wo u12 := Kp.nx (by repeat (first | with_reducible exact K | with_reducible apply Kp.al | with_reducible apply Kp.dr | with_reducible apply Kp.dr1)) hb
        replace Ox1 : Own 34 _ u12 px1 qx1 js := Own.nx (by repeat (first | with_reducible exact Ox1 | with_reducible apply Own.al | with_reducible apply Own.dr)) hb
        have Oy1 : Own 34 _ u12 py1 qy1 jl := ho
        have Sy1 : Rd u12 py1 qy1 (jl) := ho.rd
        clear ho hb
        go_wp2_with fail
        refine (RN.shr1 (zs := jr) (xs := xs) (by repeat (first | with_reducible exact Sx | with_reducible apply Rd.al | with_reducible apply Rd.dr | with_reducible apply Rd.dr1)) rfl (by omega) a2 je Hjr.out Hje.out).mono ?_; rintro e u13 ⟨pz1, qz1, rfl, ho, hb⟩
        have Gz1 : ∀ k, blk pz1 = some k → wo.heap.size ≤ k := RN.Own.from' ho (Below.size (show Kp wo _ from (by repeat (first | with_reducible exact K | with_reducible apply Kp.al | with_reducible apply Kp.dr | with_reducible apply Kp.dr1))))
        have Az1x1 := RN.Own.apart (by repeat (first | with_reducible exact Ox1 | with_reducible apply Own.al | with_reducible apply Own.dr)) ho (Nat.le_refl _)
        have Az1y1 := RN.Own.apart (by repeat (first | with_reducible exact Oy1 | with_reducible apply Own.al | with_reducible apply Own.dr)) ho (Nat.le_refl _)
        replace Sx : Rd u13 a0 cap0 (xs) := Rd.nx (by repeat (first | with_reducible exact Sx | with_reducible apply Rd.al | with_reducible apply Rd.dr | with_reducible apply Rd.dr1)) hb
        replace Sy : Rd u13 a1 cap1 (ys) := Rd.nx (by repeat (first | with_reducible exact Sy | with_reducible apply Rd.al | with_reducible apply Rd.dr | with_reducible apply Rd.dr1)) hb
        replace Sa : Rd u13 pa qa (js) := Rd.nx (by repeat (first | with_reducible exact Sa | with_reducible apply Rd.al | with_reducible apply Rd.dr | with_reducible apply Rd.dr1)) hb
        replace Sd : Rd u13 pd qd (jl) := Rd.nx (by repeat (first | with_reducible exact Sd | with_reducible apply Rd.al | with_reducible apply Rd.dr | with_reducible apply Rd.dr1)) hb
        replace Sf : Rd u13 pf qf (jr) := Rd.nx (by repeat (first | with_reducible exact Sf | with_reducible apply Rd.al | with_reducible apply Rd.dr | with_reducible apply Rd.dr1)) hb
        replace Sx1 : Rd u13 px1 qx1 (js) := Rd.nx (by repeat (first | with_reducible exact Sx1 | with_reducible apply Rd.al | with_reducible apply Rd.dr | with_reducible apply Rd.dr1)) hb
        replace Sy1 : Rd u13 py1 qy1 (jl) := Rd.nx (by repeat (first | with_reducible exact Sy1 | with_reducible apply Rd.al | with_reducible apply Rd.dr | with_reducible apply Rd.dr1)) hb
        replace K : Kp wo u13 := Kp.nx (by repeat (first | with_reducible exact K | with_reducible apply Kp.al | with_reducible apply Kp.dr | with_reducible apply Kp.dr1)) hb
        replace Ox1 : Own 34 _ u13 px1 qx1 js := Own.nx (by repeat (first | with_reducible exact Ox1 | with_reducible apply Own.al | with_reducible apply Own.dr)) hb
        replace Oy1 : Own 34 _ u13 py1 qy1 jl := Own.nx (by repeat (first | with_reducible exact Oy1 | with_reducible apply Own.al | with_reducible apply Own.dr)) hb
        have Oz1 : Own 34 _ u13 pz1 qz1 jr := ho
        have Sz1 : Rd u13 pz1 qz1 (jr) := ho.rd
        clear ho hb
        go_wp2_with fail
        refine (NR.same_yes (xs := js) (ys := js) (by repeat (first | with_reducible exact Sx1 | with_reducible apply Rd.al | with_reducible apply Rd.dr | with_reducible apply Rd.dr1)) (by repeat (first | with_reducible exact Sa | with_reducible apply Rd.al | with_reducible apply Rd.dr | with_reducible apply Rd.dr1)) rfl rfl (by omega) rfl).mono ?_; rintro e u14 ⟨rfl, hb⟩
        replace Sx : Rd u14 a0 cap0 (xs) := Rd.nx (by repeat (first | with_reducible exact Sx | with_reducible apply Rd.al | with_reducible apply Rd.dr | with_reducible apply Rd.dr1)) hb
        replace Sy : Rd u14 a1 cap1 (ys) := Rd.nx (by repeat (first | with_reducible exact Sy | with_reducible apply Rd.al | with_reducible apply Rd.dr | with_reducible apply Rd.dr1)) hb
        replace Sa : Rd u14 pa qa (js) := Rd.nx (by repeat (first | with_reducible exact Sa | with_reducible apply Rd.al | with_reducible apply Rd.dr | with_reducible apply Rd.dr1)) hb
        replace Sd : Rd u14 pd qd (jl) := Rd.nx (by repeat (first | with_reducible exact Sd | with_reducible apply Rd.al | with_reducible apply Rd.dr | with_reducible apply Rd.dr1)) hb
        replace Sf : Rd u14 pf qf (jr) := Rd.nx (by repeat (first | with_reducible exact Sf | with_reducible apply Rd.al | with_reducible apply Rd.dr | with_reducible apply Rd.dr1)) hb
        replace Sx1 : Rd u14 px1 qx1 (js) := Rd.nx (by repeat (first | with_reducible exact Sx1 | with_reducible apply Rd.al | with_reducible apply Rd.dr | with_reducible apply Rd.dr1)) hb
        replace Sy1 : Rd u14 py1 qy1 (jl) := Rd.nx (by repeat (first | with_reducible exact Sy1 | with_reducible apply Rd.al | with_reducible apply Rd.dr | with_reducible apply Rd.dr1)) hb
        replace Sz1 : Rd u14 pz1 qz1 (jr) := Rd.nx (by repeat (first | with_reducible exact Sz1 | with_reducible apply Rd.al | with_reducible apply Rd.dr | with_reducible apply Rd.dr1)) hb
        replace K : Kp wo u14 := Kp.nx (by repeat (first | with_reducible exact K | with_reducible apply Kp.al | with_reducible apply Kp.dr | with_reducible apply Kp.dr1)) hb
        replace Ox1 : Own 34 _ u14 px1 qx1 js := Own.nx (by repeat (first | with_reducible exact Ox1 | with_reducible apply Own.al | with_reducible apply Own.dr)) hb
        replace Oy1 : Own 34 _ u14 py1 qy1 jl := Own.nx (by repeat (first | with_reducible exact Oy1 | with_reducible apply Own.al | with_reducible apply Own.dr)) hb
        replace Oz1 : Own 34 _ u14 pz1 qz1 jr := Own.nx (by repeat (first | with_reducible exact Oz1 | with_reducible apply Own.al | with_reducible apply Own.dr)) hb
        clear hb
        go_wp2_with fail
        refine (NR.same_yes (xs := jl) (ys := jl) (by repeat (first | with_reducible exact Sy1 | with_reducible apply Rd.al | with_reducible apply Rd.dr | with_reducible apply Rd.dr1)) (by repeat (first | with_reducible exact Sd | with_reducible apply Rd.al | with_reducible apply Rd.dr | with_reducible apply Rd.dr1)) rfl rfl (by omega) rfl).mono ?_; rintro e u15 ⟨rfl, hb⟩
        replace Sx : Rd u15 a0 cap0 (xs) := Rd.nx (by repeat (first | with_reducible exact Sx | with_reducible apply Rd.al | with_reducible apply Rd.dr | with_reducible apply Rd.dr1)) hb
        replace Sy : Rd u15 a1 cap1 (ys) := Rd.nx (by repeat (first | with_reducible exact Sy | with_reducible apply Rd.al | with_reducible apply Rd.dr | with_reducible apply Rd.dr1)) hb
        replace Sa : Rd u15 pa qa (js) := Rd.nx (by repeat (first | with_reducible exact Sa | with_reducible apply Rd.al | with_reducible apply Rd.dr | with_reducible apply Rd.dr1)) hb
        replace Sd : Rd u15 pd qd (jl) := Rd.nx (by repeat (first | with_reducible exact Sd | with_reducible apply Rd.al | with_reducible apply Rd.dr | with_reducible apply Rd.dr1)) hb
        replace Sf : Rd u15 pf qf (jr) := Rd.nx (by repeat (first | with_reducible exact Sf | with_reducible apply Rd.al | with_reducible apply Rd.dr | with_reducible apply Rd.dr1)) hb
        replace Sx1 : Rd u15 px1 qx1 (js) := Rd.nx (by repeat (first | with_reducible exact Sx1 | with_reducible apply Rd.al | with_reducible apply Rd.dr | with_reducible apply Rd.dr1)) hb
        replace Sy1 : Rd u15 py1 qy1 (jl) := Rd.nx (by repeat (first | with_reducible exact Sy1 | with_reducible apply Rd.al | with_reducible apply Rd.dr | with_reducible apply Rd.dr1)) hb
        replace Sz1 : Rd u15 pz1 qz1 (jr) := Rd.nx (by repeat (first | with_reducible exact Sz1 | with_reducible apply Rd.al | with_reducible apply Rd.dr | with_reducible apply Rd.dr1)) hb
        replace K : Kp wo u15 := Kp.nx (by repeat (first | with_reducible exact K | with_reducible apply Kp.al | with_reducible apply Kp.dr | with_reducible apply Kp.dr1)) hb
        replace Ox1 : Own 34 _ u15 px1 qx1 js := Own.nx (by repeat (first | with_reducible exact Ox1 | with_reducible apply Own.al | with_reducible apply Own.dr)) hb
        replace Oy1 : Own 34 _ u15 py1 qy1 jl := Own.nx (by repeat (first | with_reducible exact Oy1 | with_reducible apply Own.al | with_reducible apply Own.dr)) hb
        replace Oz1 : Own 34 _ u15 pz1 qz1 jr := Own.nx (by repeat (first | with_reducible exact Oz1 | with_reducible apply Own.al | with_reducible apply Own.dr)) hb
        clear hb
        go_wp2_with fail
        refine (NR.same_yes (xs := jr) (ys := jr) (by repeat (first | with_reducible exact Sz1 | with_reducible apply Rd.al | with_reducible apply Rd.dr | with_reducible apply Rd.dr1)) (by repeat (first | with_reducible exact Sf | with_reducible apply Rd.al | with_reducible apply Rd.dr | with_reducible apply Rd.dr1)) rfl rfl (by omega) rfl).mono ?_; rintro e u16 ⟨rfl, hb⟩
        replace Sx : Rd u16 a0 cap0 (xs) := Rd.nx (by repeat (first | with_reducible exact Sx | with_reducible apply Rd.al | with_reducible apply Rd.dr | with_reducible apply Rd.dr1)) hb
        replace Sy : Rd u16 a1 cap1 (ys) := Rd.nx (by repeat (first | with_reducible exact Sy | with_reducible apply Rd.al | with_reducible apply Rd.dr | with_reducible apply Rd.dr1)) hb
        replace Sa : Rd u16 pa qa (js) := Rd.nx (by repeat (first | with_reducible exact Sa | with_reducible apply Rd.al | with_reducible apply Rd.dr | with_reducible apply Rd.dr1)) hb
        replace Sd : Rd u16 pd qd (jl) := Rd.nx (by repeat (first | with_reducible exact Sd | with_reducible apply Rd.al | with_reducible apply Rd.dr | with_reducible apply Rd.dr1)) hb
        replace Sf : Rd u16 pf qf (jr) := Rd.nx (by repeat (first | with_reducible exact Sf | with_reducible apply Rd.al | with_reducible apply Rd.dr | with_reducible apply Rd.dr1)) hb
        replace Sx1 : Rd u16 px1 qx1 (js) := Rd.nx (by repeat (first | with_reducible exact Sx1 | with_reducible apply Rd.al | with_reducible apply Rd.dr | with_reducible apply Rd.dr1)) hb
        replace Sy1 : Rd u16 py1 qy1 (jl) := Rd.nx (by repeat (first | with_reducible exact Sy1 | with_reducible apply Rd.al | with_reducible apply Rd.dr | with_reducible apply Rd.dr1)) hb
        replace Sz1 : Rd u16 pz1 qz1 (jr) := Rd.nx (by repeat (first | with_reducible exact Sz1 | with_reducible apply Rd.al | with_reducible apply Rd.dr | with_reducible apply Rd.dr1)) hb
        replace K : Kp wo u16 := Kp.nx (by repeat (first | with_reducible exact K | with_reducible apply Kp.al | with_reducible apply Kp.dr | with_reducible apply Kp.dr1)) hb
        replace Ox1 : Own 34 _ u16 px1 qx1 js := Own.nx (by repeat (first | with_reducible exact Ox1 | with_reducible apply Own.al | with_reducible apply Own.dr)) hb
        replace Oy1 : Own 34 _ u16 py1 qy1 jl := Own.nx (by repeat (first | with_reducible exact Oy1 | with_reducible apply Own.al | with_reducible apply Own.dr)) hb
        replace Oz1 : Own 34 _ u16 pz1 qz1 jr := Own.nx (by repeat (first | with_reducible exact Oz1 | with_reducible apply Own.al | with_reducible apply Own.dr)) hb
        clear hb
        go_wp2_with fail
        refine (RN.spoil (xs := js) Ox1 rfl (by omega)).mono ?_; rintro e u17 ⟨rfl, hg⟩
        replace K : Kp wo u17 := Kp.grown K hg Gx1
        replace Sx : Rd u17 a0 cap0 (xs) := Rd.nx Bx K
        replace Sy : Rd u17 a1 cap1 (ys) := Rd.nx By K
        replace Sa : Rd u17 pa qa (js) := Rd.nx Ba K
        replace Sd : Rd u17 pd qd (jl) := Rd.nx Bd K
        replace Sf : Rd u17 pf qf (jr) := Rd.nx Bf K
        clear Sx1
        replace Oy1 : Own 34 _ u17 py1 qy1 jl := Own.kept Oy1 hg Ay1x1
        replace Sy1 : Rd u17 py1 qy1 (jl) := Oy1.rd
        replace Oz1 : Own 34 _ u17 pz1 qz1 jr := Own.kept Oz1 hg Az1x1
        replace Sz1 : Rd u17 pz1 qz1 (jr) := Oz1.rd
        clear hg Ox1 Gx1
        go_wp2_with fail
        refine (RN.spoil (xs := jl) Oy1 rfl (by omega)).mono ?_; rintro e u18 ⟨rfl, hg⟩
        replace K : Kp wo u18 := Kp.grown K hg Gy1
        replace Sx : Rd u18 a0 cap0 (xs) := Rd.nx Bx K
        replace Sy : Rd u18 a1 cap1 (ys) := Rd.nx By K
        replace Sa : Rd u18 pa qa (js) := Rd.nx Ba K
        replace Sd : Rd u18 pd qd (jl) := Rd.nx Bd K
        replace Sf : Rd u18 pf qf (jr) := Rd.nx Bf K
        clear Sy1
        replace Oz1 : Own 34 _ u18 pz1 qz1 jr := Own.kept Oz1 hg Az1y1
        replace Sz1 : Rd u18 pz1 qz1 (jr) := Oz1.rd
        clear hg Oy1 Gy1
        go_wp2_with fail
        refine (RN.spoil (xs := jr) Oz1 rfl (by omega)).mono ?_; rintro e u19 ⟨rfl, hg⟩
        replace K : Kp wo u19 := Kp.grown K hg Gz1
        replace Sx : Rd u19 a0 cap0 (xs) := Rd.nx Bx K
        replace Sy : Rd u19 a1 cap1 (ys) := Rd.nx By K
        replace Sa : Rd u19 pa qa (js) := Rd.nx Ba K
        replace Sd : Rd u19 pd qd (jl) := Rd.nx Bd K
        replace Sf : Rd u19 pf qf (jr) := Rd.nx Bf K
        clear Sz1
        clear hg Oz1 Gz1
        go_wp2_with fail
        go_roundw
        case rel => exact ⟨i + 1, by go_num, by omega, Kp.nx KR.out (by repeat (first | with_reducible exact K | with_reducible apply Kp.al | with_reducible apply Kp.dr | with_reducible apply Kp.dr1))⟩
        case measure => simp [intOf]; omega
      · have K := K0.out
        go_wp2_with fail
        refine (LN.awake _).mono ?_; rintro e u31 ⟨rfl, hb⟩
        replace K : Kp w u31 := Kp.nx (by repeat (first | with_reducible exact K | with_reducible apply Kp.al | with_reducible apply Kp.dr | with_reducible apply Kp.dr1)) hb
        clear hb
        go_wp2_with fail
        go_ret
        exact ⟨rfl, Kp.below (by repeat (first | with_reducible exact K | with_reducible apply Kp.al | with_reducible apply Kp.dr | with_reducible apply Kp.dr1))⟩
  · clear hb
    go_enter Try.func7, Try.ntmps7
    go_wp2_with fail
    refine (LN.long2 (by simp) false HZ).mono ?_; rintro e w' ⟨rfl, rfl⟩
    go_wp2_with fail
    refine (RN.mul (zs := js) (xs := xs) (ys := ys) (by repeat (first | with_reducible exact Sx | with_reducible apply Rd.al | with_reducible apply Rd.dr | with_reducible apply Rd.dr1)) (by repeat (first | with_reducible exact Sy | with_reducible apply Rd.al | with_reducible apply Rd.dr | with_reducible apply Rd.dr1)) rfl rfl (by omega) (by omega) Hjs.out).mono ?_; rintro e u1 ⟨pa, qa, rfl, ho, hb⟩
    replace Sx : Rd u1 a0 cap0 (xs) := Rd.nx (by repeat (first | with_reducible exact Sx | with_reducible apply Rd.al | with_reducible apply Rd.dr | with_reducible apply Rd.dr1)) hb
    replace Sy : Rd u1 a1 cap1 (ys) := Rd.nx (by repeat (first | with_reducible exact Sy | with_reducible apply Rd.al | with_reducible apply Rd.dr | with_reducible apply Rd.dr1)) hb
    replace K : Kp w u1 := Kp.nx (by repeat (first | with_reducible exact K | with_reducible apply Kp.al | with_reducible apply Kp.dr | with_reducible apply Kp.dr1)) hb
    have Sa : Rd u1 pa qa (js) := ho.rd
    clear ho hb
    go_wp2_with fail
    refine (RN.shl2 (zs := jl) (xs := xs) (by repeat (first | with_reducible exact Sx | with_reducible apply Rd.al | with_reducible apply Rd.dr | with_reducible apply Rd.dr1)) rfl (by omega) a2 je Hjl.out Hje.out).mono ?_; rintro e u2 ⟨pd, qd, rfl, ho, hb⟩
    replace Sx : Rd u2 a0 cap0 (xs) := Rd.nx (by repeat (first | with_reducible exact Sx | with_reducible apply Rd.al | with_reducible apply Rd.dr | with_reducible apply Rd.dr1)) hb
    replace Sy : Rd u2 a1 cap1 (ys) := Rd.nx (by repeat (first | with_reducible exact Sy | with_reducible apply Rd.al | with_reducible apply Rd.dr | with_reducible apply Rd.dr1)) hb
    replace Sa : Rd u2 pa qa (js) := Rd.nx (by repeat (first | with_reducible exact Sa | with_reducible apply Rd.al | with_reducible apply Rd.dr | with_reducible apply Rd.dr1)) hb
    replace K : Kp w u2 := Kp.nx (by repeat (first | with_reducible exact K | with_reducible apply Kp.al | with_reducible apply Kp.dr | with_reducible apply Kp.dr1)) hb
    have Sd : Rd u2 pd qd (jl) := ho.rd
    clear ho hb
    go_wp2_with fail
    refine (RN.shr2 (zs := jr) (xs := xs) (by repeat (first | with_reducible exact Sx | with_reducible apply Rd.al | with_reducible apply Rd.dr | with_reducible apply Rd.dr1)) rfl (by omega) a2 je Hjr.out Hje.out).mono ?_; rintro e u3 ⟨pf, qf, rfl, ho, hb⟩
    replace Sx : Rd u3 a0 cap0 (xs) := Rd.nx (by repeat (first | with_reducible exact Sx | with_reducible apply Rd.al | with_reducible apply Rd.dr | with_reducible apply Rd.dr1)) hb
    replace Sy : Rd u3 a1 cap1 (ys) := Rd.nx (by repeat (first | with_reducible exact Sy | with_reducible apply Rd.al | with_reducible apply Rd.dr | with_reducible apply Rd.dr1)) hb
    replace Sa : Rd u3 pa qa (js) := Rd.nx (by repeat (first | with_reducible exact Sa | with_reducible apply Rd.al | with_reducible apply Rd.dr | with_reducible apply Rd.dr1)) hb
    replace Sd : Rd u3 pd qd (jl) := Rd.nx (by repeat (first | with_reducible exact Sd | with_reducible apply Rd.al | with_reducible apply Rd.dr | with_reducible apply Rd.dr1)) hb
    replace K : Kp w u3 := Kp.nx (by repeat (first | with_reducible exact K | with_reducible apply Kp.al | with_reducible apply Kp.dr | with_reducible apply Kp.dr1)) hb
    have Sf : Rd u3 pf qf (jr) := ho.rd
    clear ho hb
    go_wp2_with fail
    go_loopw [12] (fun s wr => ∃ i : Nat, s = .int .i64 i ∧ i ≤ 2 ∧ Kp u3 wr) (fun s _ => 2 - (intOf s).toNat)
    case atStart => exact ⟨0, rfl, by omega, Kp.refl _⟩
    case round =>
      obtain ⟨i, rfl, hi, Kr⟩ := hrel
      replace Sx : Rd wr a0 cap0 (xs) := Rd.nx Sx Kr
      replace Sy : Rd wr a1 cap1 (ys) := Rd.nx Sy Kr
      replace Sa : Rd wr pa qa (js) := Rd.nx Sa Kr
      replace Sd : Rd wr pd qd (jl) := Rd.nx Sd Kr
      replace Sf : Rd wr pf qf (jr) := Rd.nx Sf Kr
      have K0 := Lib.hid (Kp.nx K Kr)
      have KR := Lib.hid Kr; clear K Kr
      obtain ⟨wo, rfl⟩ : ∃ wo : World, wo = wr := ⟨_, rfl⟩
      by_cases hlt : i < 2
      · have K : Kp wo wo := Kp.refl _
        have Bx : Rd wo a0 cap0 (xs) := (by repeat (first | with_reducible exact Sx | with_reducible apply Rd.al | with_reducible apply Rd.dr | with_reducible apply Rd.dr1))
        have By : Rd wo a1 cap1 (ys) := (by repeat (first | with_reducible exact Sy | with_reducible apply Rd.al | with_reducible apply Rd.dr | with_reducible apply Rd.dr1))
        have Ba : Rd wo pa qa (js) := (by repeat (first | with_reducible exact Sa | with_reducible apply Rd.al | with_reducible apply Rd.dr | with_reducible apply Rd.dr1))
        have Bd : Rd wo pd qd (jl) := (by repeat (first | with_reducible exact Sd | with_reducible apply Rd.al | with_reducible apply Rd.dr | with_reducible apply Rd.dr1))
        have Bf : Rd wo pf qf (jr) := (by repeat (first | with_reducible exact Sf | with_reducible apply Rd.al | with_reducible apply Rd.dr | with_reducible apply Rd.dr1))
        go_wp2_with fail
        refine (NR.mul (zs := js) (xs := xs) (ys := ys) (by repeat (first | with_reducible exact Sx | with_reducible apply Rd.al | with_reducible apply Rd.dr | with_reducible apply Rd.dr1)) (by repeat (first | with_reducible exact Sy | with_reducible apply Rd.al | with_reducible apply Rd.dr | with_reducible apply Rd.dr1)) rfl rfl (by omega) (by omega) Hjs.out).mono ?_; rintro e u11 ⟨px1, qx1, rfl, ho, hb⟩
        have Gx1 : ∀ k, blk px1 = some k → wo.heap.size ≤ k := RN.Own.from' ho (Below.size (show Kp wo _ from (by repeat (first | with_reducible exact K | with_reducible apply Kp.al | with_reducible apply Kp.dr | with_reducible apply Kp.dr1))))
        replace Sx : Rd u11 a0 cap0 (xs) := Rd.nx (by repeat (first | with_reducible exact Sx | with_reducible apply Rd.al | with_reducible apply Rd.dr | with_reducible apply Rd.dr1)) hb
        replace Sy : Rd u11 a1 cap1 (ys) := Rd.nx (by repeat (first | with_reducible exact Sy | with_reducible apply Rd.al | with_reducible apply Rd.dr | with_reducible apply Rd.dr1)) hb
        replace Sa : Rd u11 pa qa (js) := Rd.nx (by repeat (first | with_reducible exact Sa | with_reducible apply Rd.al | with_reducible apply Rd.dr | with_reducible apply Rd.dr1)) hb
        replace Sd : Rd u11 pd qd (jl) := Rd.nx (by repeat (first | with_reducible exact Sd | with_reducible apply Rd.al | with_reducible apply Rd.dr | with_reducible apply Rd.dr1)) hb
        replace Sf : Rd u11 pf qf (jr) := Rd.nx (by repeat (first | with_reducible exact Sf | with_reducible apply Rd.al | with_reducible apply Rd.dr | with_reducible apply Rd.dr1)) hb
        replace K : Kp wo u11 := Kp.nx (by repeat (first | with_reducible exact K | with_reducible apply Kp.al | with_reducible apply Kp.dr | with_reducible apply Kp.dr1)) hb
        have Ox1 : Own 34 _ u11 px1 qx1 js := ho
        have Sx1 : Rd u11 px1 qx1 (js) := ho.rd
        clear ho hb
        go_wp2_with fail
        refine (RN.shl1 (zs := jl) (xs := xs) (by repeat (first | with_reducible exact Sx | with_reducible apply Rd.al | with_reducible apply Rd.dr | with_reducible apply Rd.dr1)) rfl (by omega) a2 je Hjl.out Hje.out).mono ?_; rintro e u12 ⟨py1, qy1, rfl, ho, hb⟩
        have Gy1 : ∀ k, blk py1 = some k → wo.heap.size ≤ k := RN.Own.from' ho (Below.size (show Kp wo _ from (by repeat (first | with_reducible exact K | with_reducible apply Kp.al | with_reducible apply Kp.dr | with_reducible apply Kp.dr1))))
        have Ay1x1 := RN.Own.apart (by repeat (first | with_reducible exact Ox1 | with_reducible apply Own.al | with_reducible apply Own.dr)) ho (Nat.le_refl _)
        replace Sx : Rd u12 a0 cap0 (xs) := Rd.nx (by repeat (first | with_reducible exact Sx | with_reducible apply Rd.al | with_reducible apply Rd.dr | with_reducible apply Rd.dr1)) hb
        replace Sy : Rd u12 a1 cap1 (ys) := Rd.nx (by repeat (first | with_reducible exact Sy | with_reducible apply Rd.al | with_reducible apply Rd.dr | with_reducible apply Rd.dr1)) hb
        replace Sa : Rd u12 pa qa (js) := Rd.nx (by repeat (first | with_reducible exact Sa | with_reducible apply Rd.al | with_reducible apply Rd.dr | with_reducible apply Rd.dr1)) hb
        replace Sd : Rd u12 pd qd (jl) := Rd.nx (by repeat (first | with_reducible exact Sd | with_reducible apply Rd.al | with_reducible apply Rd.dr | with_reducible apply Rd.dr1)) hb
        replace Sf : Rd u12 pf qf (jr) := Rd.nx (by repeat (first | with_reducible exact Sf | with_reducible apply Rd.al | with_reducible apply Rd.dr | with_reducible apply Rd.dr1)) hb
        replace Sx1 : Rd u12 px1 qx1 (js) := Rd.nx (by repeat (first | with_reducible exact Sx1 | with_reducible apply Rd.al | with_reducible apply Rd.dr | with_reducible apply Rd.dr1)) hb
        replace K : Kp wo u12 := Kp.nx (by repeat (first | with_reducible exact K | with_reducible apply Kp.al | with_reducible apply Kp.dr | with_reducible apply Kp.dr1)) hb
        replace Ox1 : Own 34 _ u12 px1 qx1 js := Own.nx (by repeat (first | with_reducible exact Ox1 | with_reducible apply Own.al | with_reducible apply Own.dr)) hb
        have Oy1 : Own 34 _ u12 py1 qy1 jl := ho
        have Sy1 : Rd u12 py1 qy1 (jl) := ho.rd
        clear ho hb
        go_wp2_with fail
        refine (RN.shr1 (zs := jr) (xs := xs) (by repeat (first | with_reducible exact Sx | with_reducible apply Rd.al | with_reducible apply Rd.dr | with_reducible apply Rd.dr1)) rfl (by omega) a2 je Hjr.out Hje.out).mono ?_; rintro e u13 ⟨pz1, qz1, rfl, ho, hb⟩
        have Gz1 : ∀ k, blk pz1 = some k → wo.heap.size ≤ k := RN.Own.from' ho (Below.size (show Kp wo _ from (by repeat (first | with_reducible exact K | with_reducible apply Kp.al | with_reducible apply Kp.dr | with_reducible apply Kp.dr1))))
        have Az1x1 := RN.Own.apart (by repeat (first | with_reducible exact Ox1 | with_reducible apply Own.al | with_reducible apply Own.dr)) ho (Nat.le_refl _)
        have Az1y1 := RN.Own.apart (by repeat (first | with_reducible exact Oy1 | with_reducible apply Own.al | with_reducible apply Own.dr)) ho (Nat.le_refl _)
        replace Sx : Rd u13 a0 cap0 (xs) := Rd.nx (by repeat (first | with_reducible exact Sx | with_reducible apply Rd.al | with_reducible apply Rd.dr | with_reducible apply Rd.dr1)) hb
        replace Sy : Rd u13 a1 cap1 (ys) := Rd.nx (by repeat (first | with_reducible exact Sy | with_reducible apply Rd.al | with_reducible apply Rd.dr | with_reducible apply Rd.dr1)) hb
        replace Sa : Rd u13 pa qa (js) := Rd.nx (by repeat (first | with_reducible exact Sa | with_reducible apply Rd.al | with_reducible apply Rd.dr | with_reducible apply Rd.dr1)) hb
        replace Sd : Rd u13 pd qd (jl) := Rd.nx (by repeat (first | with_reducible exact Sd | with_reducible apply Rd.al | with_reducible apply Rd.dr | with_reducible apply Rd.dr1)) hb
        replace Sf : Rd u13 pf qf (jr) := Rd.nx (by repeat (first | with_reducible exact Sf | with_reducible apply Rd.al | with_reducible apply Rd.dr | with_reducible apply Rd.dr1)) hb
        replace Sx1 : Rd u13 px1 qx1 (js) := Rd.nx (by repeat (first | with_reducible exact Sx1 | with_reducible apply Rd.al | with_reducible apply Rd.dr | with_reducible apply Rd.dr1)) hb
        replace Sy1 : Rd u13 py1 qy1 (jl) := Rd.nx (by repeat (first | with_reducible exact Sy1 | with_reducible apply Rd.al | with_reducible apply Rd.dr | with_reducible apply Rd.dr1)) hb
        replace K : Kp wo u13 := Kp.nx (by repeat (first | with_reducible exact K | with_reducible apply Kp.al | with_reducible apply Kp.dr | with_reducible apply Kp.dr1)) hb
        replace Ox1 : Own 34 _ u13 px1 qx1 js := Own.nx (by repeat (first | with_reducible exact Ox1 | with_reducible apply Own.al | with_reducible apply Own.dr)) hb
        replace Oy1 : Own 34 _ u13 py1 qy1 jl := Own.nx (by repeat (first | with_reducible exact Oy1 | with_reducible apply Own.al | with_reducible apply Own.dr)) hb
        have Oz1 : Own 34 _ u13 pz1 qz1 jr := ho
        have Sz1 : Rd u13 pz1 qz1 (jr) := ho.rd
        clear ho hb
        go_wp2_with fail
        refine (NR.same_yes (xs := js) (ys := js) (by repeat (first | with_reducible exact Sx1 | with_reducible apply Rd.al | with_reducible apply Rd.dr | with_reducible apply Rd.dr1)) (by repeat (first | with_reducible exact Sa | with_reducible apply Rd.al | with_reducible apply Rd.dr | with_reducible apply Rd.dr1)) rfl rfl (by omega) rfl).mono ?_; rintro e u14 ⟨rfl, hb⟩
        replace Sx : Rd u14 a0 cap0 (xs) := Rd.nx (by repeat (first | with_reducible exact Sx | with_reducible apply Rd.al | with_reducible apply Rd.dr | with_reducible apply Rd.dr1)) hb
        replace Sy : Rd u14 a1 cap1 (ys) := Rd.nx (by repeat (first | with_reducible exact Sy | with_reducible apply Rd.al | with_reducible apply Rd.dr | with_reducible apply Rd.dr1)) hb
        replace Sa : Rd u14 pa qa (js) := Rd.nx (by repeat (first | with_reducible exact Sa | with_reducible apply Rd.al | with_reducible apply Rd.dr | with_reducible apply Rd.dr1)) hb
        replace Sd : Rd u14 pd qd (jl) := Rd.nx (by repeat (first | with_reducible exact Sd | with_reducible apply Rd.al | with_reducible apply Rd.dr | with_reducible apply Rd.dr1)) hb
        replace Sf : Rd u14 pf qf (jr) := Rd.nx (by repeat (first | with_reducible exact Sf | with_reducible apply Rd.al | with_reducible apply Rd.dr | with_reducible apply Rd.dr1)) hb
        replace Sx1 : Rd u14 px1 qx1 (js) := Rd.nx (by repeat (first | with_reducible exact Sx1 | with_reducible apply Rd.al | with_reducible apply Rd.dr | with_reducible apply Rd.dr1)) hb
        replace Sy1 : Rd u14 py1 qy1 (jl) := Rd.nx (by repeat (first | with_reducible exact Sy1 | with_reducible apply Rd.al | with_reducible apply Rd.dr | with_reducible apply Rd.dr1)) hb
        replace Sz1 : Rd u14 pz1 qz1 (jr) := Rd.nx (by repeat (first | with_reducible exact Sz1 | with_reducible apply Rd.al | with_reducible apply Rd.dr | with_reducible apply Rd.dr1)) hb
        replace K : Kp wo u14 := Kp.nx (by repeat (first | with_reducible exact K | with_reducible apply Kp.al | with_reducible apply Kp.dr | with_reducible apply Kp.dr1)) hb
        replace Ox1 : Own 34 _ u14 px1 qx1 js := Own.nx (by repeat (first | with_reducible exact Ox1 | with_reducible apply Own.al | with_reducible apply Own.dr)) hb
        replace Oy1 : Own 34 _ u14 py1 qy1 jl := Own.nx (by repeat (first | with_reducible exact Oy1 | with_reducible apply Own.al | with_reducible apply Own.dr)) hb
        replace Oz1 : Own 34 _ u14 pz1 qz1 jr := Own.nx (by repeat (first | with_reducible exact Oz1 | with_reducible apply Own.al | with_reducible apply Own.dr)) hb
        clear hb
        go_wp2_with fail
        refine (NR.same_yes (xs := jl) (ys := jl) (by repeat (first | with_reducible exact Sy1 | with_reducible apply Rd.al | with_reducible apply Rd.dr | with_reducible apply Rd.dr1)) (by repeat (first | with_reducible exact Sd | with_reducible apply Rd.al | with_reducible apply Rd.dr | with_reducible apply Rd.dr1)) rfl rfl (by omega) rfl).mono ?_; rintro e u15 ⟨rfl, hb⟩
        replace Sx : Rd u15 a0 cap0 (xs) := Rd.nx (by repeat (first | with_reducible exact Sx | with_reducible apply Rd.al | with_reducible apply Rd.dr | with_reducible apply Rd.dr1)) hb
        replace Sy : Rd u15 a1 cap1 (ys) := Rd.nx (by repeat (first | with_reducible exact Sy | with_reducible apply Rd.al | with_reducible apply Rd.dr | with_reducible apply Rd.dr1)) hb
        replace Sa : Rd u15 pa qa (js) := Rd.nx (by repeat (first | with_reducible exact Sa | with_reducible apply Rd.al | with_reducible apply Rd.dr | with_reducible apply Rd.dr1)) hb
        replace Sd : Rd u15 pd qd (jl) := Rd.nx (by repeat (first | with_reducible exact Sd | with_reducible apply Rd.al | with_reducible apply Rd.dr | with_reducible apply Rd.dr1)) hb
        replace Sf : Rd u15 pf qf (jr) := Rd.nx (by repeat (first | with_reducible exact Sf | with_reducible apply Rd.al | with_reducible apply Rd.dr | with_reducible apply Rd.dr1)) hb
        replace Sx1 : Rd u15 px1 qx1 (js) := Rd.nx (by repeat (first | with_reducible exact Sx1 | with_reducible apply Rd.al | with_reducible apply Rd.dr | with_reducible apply Rd.dr1)) hb
        replace Sy1 : Rd u15 py1 qy1 (jl) := Rd.nx (by repeat (first | with_reducible exact Sy1 | with_reducible apply Rd.al | with_reducible apply Rd.dr | with_reducible apply Rd.dr1)) hb
        replace Sz1 : Rd u15 pz1 qz1 (jr) := Rd.nx (by repeat (first | with_reducible exact Sz1 | with_reducible apply Rd.al | with_reducible apply Rd.dr | with_reducible apply Rd.dr1)) hb
        replace K : Kp wo u15 := Kp.nx (by repeat (first | with_reducible exact K | with_reducible apply Kp.al | with_reducible apply Kp.dr | with_reducible apply Kp.dr1)) hb
        replace Ox1 : Own 34 _ u15 px1 qx1 js := Own.nx (by repeat (first | with_reducible exact Ox1 | with_reducible apply Own.al | with_reducible apply Own.dr)) hb
        replace Oy1 : Own 34 _ u15 py1 qy1 jl := Own.nx (by repeat (first | with_reducible exact Oy1 | with_reducible apply Own.al | with_reducible apply Own.dr)) hb
        replace Oz1 : Own 34 _ u15 pz1 qz1 jr := Own.nx (by repeat (first | with_reducible exact Oz1 | with_reducible apply Own.al | with_reducible apply Own.dr)) hb
        clear hb
        go_wp2_with fail
        refine (NR.same_yes (xs := jr) (ys := jr) (by repeat (first | with_reducible exact Sz1 | with_reducible apply Rd.al | with_reducible apply Rd.dr | with_reducible apply Rd.dr1)) (by repeat (first | with_reducible exact Sf | with_reducible apply Rd.al | with_reducible apply Rd.dr | with_reducible apply Rd.dr1)) rfl rfl (by omega) rfl).mono ?_; rintro e u16 ⟨rfl, hb⟩
        replace Sx : Rd u16 a0 cap0 (xs) := Rd.nx (by repeat (first | with_reducible exact Sx | with_reducible apply Rd.al | with_reducible apply Rd.dr | with_reducible apply Rd.dr1)) hb
        replace Sy : Rd u16 a1 cap1 (ys) := Rd.nx (by repeat (first | with_reducible exact Sy | with_reducible apply Rd.al | with_reducible apply Rd.dr | with_reducible apply Rd.dr1)) hb
        replace Sa : Rd u16 pa qa (js) := Rd.nx (by repeat (first | with_reducible exact Sa | with_reducible apply Rd.al | with_reducible apply Rd.dr | with_reducible apply Rd.dr1)) hb
        replace Sd : Rd u16 pd qd (jl) := Rd.nx (by repeat (first | with_reducible exact Sd | with_reducible apply Rd.al | with_reducible apply Rd.dr | with_reducible apply Rd.dr1)) hb
        replace Sf : Rd u16 pf qf (jr) := Rd.nx (by repeat (first | with_reducible exact Sf | with_reducible apply Rd.al | with_reducible apply Rd.dr | with_reducible apply Rd.dr1)) hb
        replace Sx1 : Rd u16 px1 qx1 (js) := Rd.nx (by repeat (first | with_reducible exact Sx1 | with_reducible apply Rd.al | with_reducible apply Rd.dr | with_reducible apply Rd.dr1)) hb
        replace Sy1 : Rd u16 py1 qy1 (jl) := Rd.nx (by repeat (first | with_reducible exact Sy1 | with_reducible apply Rd.al | with_reducible apply Rd.dr | with_reducible apply Rd.dr1)) hb
        replace Sz1 : Rd u16 pz1 qz1 (jr) := Rd.nx (by repeat (first | with_reducible exact Sz1 | with_reducible apply Rd.al | with_reducible apply Rd.dr | with_reducible apply Rd.dr1)) hb
        replace K : Kp wo u16 := Kp.nx (by repeat (first | with_reducible exact K | with_reducible apply Kp.al | with_reducible apply Kp.dr | with_reducible apply Kp.dr1)) hb
        replace Ox1 : Own 34 _ u16 px1 qx1 js := Own.nx (by repeat (first | with_reducible exact Ox1 | with_reducible apply Own.al | with_reducible apply Own.dr)) hb
        replace Oy1 : Own 34 _ u16 py1 qy1 jl := Own.nx (by repeat (first | with_reducible exact Oy1 | with_reducible apply Own.al | with_reducible apply Own.dr)) hb
        replace Oz1 : Own 34 _ u16 pz1 qz1 jr := Own.nx (by repeat (first | with_reducible exact Oz1 | with_reducible apply Own.al | with_reducible apply Own.dr)) hb
        clear hb
        go_wp2_with fail
        refine (RN.spoil (xs := js) Ox1 rfl (by omega)).mono ?_; rintro e u17 ⟨rfl, hg⟩
        replace K : Kp wo u17 := Kp.grown K hg Gx1
        replace Sx : Rd u17 a0 cap0 (xs) := Rd.nx Bx K
        replace Sy : Rd u17 a1 cap1 (ys) := Rd.nx By K
        replace Sa : Rd u17 pa qa (js) := Rd.nx Ba K
        replace Sd : Rd u17 pd qd (jl) := Rd.nx Bd K
        replace Sf : Rd u17 pf qf (jr) := Rd.nx Bf K
        clear Sx1
        replace Oy1 : Own 34 _ u17 py1 qy1 jl := Own.kept Oy1 hg Ay1x1
        replace Sy1 : Rd u17 py1 qy1 (jl) := Oy1.rd
        replace Oz1 : Own 34 _ u17 pz1 qz1 jr := Own.kept Oz1 hg Az1x1
        replace Sz1 : Rd u17 pz1 qz1 (jr) := Oz1.rd
        clear hg Ox1 Gx1
        go_wp2_with fail
        refine (RN.spoil (xs := jl) Oy1 rfl (by omega)).mono ?_; rintro e u18 ⟨rfl, hg⟩
        replace K : Kp wo u18 := Kp.grown K hg Gy1
        replace Sx : Rd u18 a0 cap0 (xs) := Rd.nx Bx K
        replace Sy : Rd u18 a1 cap1 (ys) := Rd.nx By K
        replace Sa : Rd u18 pa qa (js) := Rd.nx Ba K
        replace Sd : Rd u18 pd qd (jl) := Rd.nx Bd K
        replace Sf : Rd u18 pf qf (jr) := Rd.nx Bf K
        clear Sy1
        replace Oz1 : Own 34 _ u18 pz1 qz1 jr := Own.kept Oz1 hg Az1y1
        replace Sz1 : Rd u18 pz1 qz1 (jr) := Oz1.rd
        clear hg Oy1 Gy1
        go_wp2_with fail
        refine (RN.spoil (xs := jr) Oz1 rfl (by omega)).mono ?_; rintro e u19 ⟨rfl, hg⟩
        replace K : Kp wo u19 := Kp.grown K hg Gz1
        replace Sx : Rd u19 a0 cap0 (xs) := Rd.nx Bx K
        replace Sy : Rd u19 a1 cap1 (ys) := Rd.nx By K
        replace Sa : Rd u19 pa qa (js) := Rd.nx Ba K
        replace Sd : Rd u19 pd qd (jl) := Rd.nx Bd K
        replace Sf : Rd u19 pf qf (jr) := Rd.nx Bf K
        clear Sz1
        clear hg Oz1 Gz1
        go_wp2_with fail
        go_roundw
        case rel => exact ⟨i + 1, by go_num, by omega, Kp.nx KR.out (by repeat (first | with_reducible exact K | with_reducible apply Kp.al | with_reducible apply Kp.dr | with_reducible apply Kp.dr1))⟩
        case measure => simp [intOf]; omega
      · have K := K0.out
        go_wp2_with fail
        refine (LN.awake _).mono ?_; rintro e u31 ⟨rfl, hb⟩
        replace K : Kp w u31 := Kp.nx (by repeat (first | with_reducible exact K | with_reducible apply Kp.al | with_reducible apply Kp.dr | with_reducible apply Kp.dr1)) hb
        clear hb
        go_wp2_with fail
        go_ret
        exact ⟨rfl, Kp.below (by repeat (first | with_reducible exact K | with_reducible apply Kp.al | with_reducible apply Kp.dr | with_reducible apply Kp.dr1))⟩

/-! ### THE ROW's STEP: WRITTEN OUT: LEAVE IT -/
set_option maxRecDepth 100000 in
theorem lifted (os : Os) (started : os.Started) (H : Type) (enc : TypeId × Value → H) :
    ReturnsInHanded {} Try.checked os 7 .any (Rows.natProductsSpec.pre6 enc Try.prog Try.f7 Rows.natProductsRow.domain false) (Rows.natProductsSpec.post enc Try.prog Try.f7 false true false false) := by
  refine returnsInHanded_of_change (C := Try.checked) own started (by kernel_rfl) Try.func7
    (ChangeSpec.witness6 (enc := enc) (C := Try.checked) false ⟨#[], #[.slice none 0 0, .slice none 0 0, .int .i64 0], []⟩ 8 (by kernel_rfl) (by kernel_rfl) (by kernel_rfl) (by kernel_rfl)) ?_
  intro W base args ds gs before hval0 hW hcnd _
  have hval : ∀ (j : Nat) t v, Try.f7.params[j]? = some t → args[j]? = some v → Value.okWide Try.prog W .any base t v := hval0
  have hW' := hW
  obtain ⟨p, q, hA0, hV, rfl, hfz, hnd⟩ := hW
  have hA : DataW.TrodAll enc Try.prog W 0 (fun _ => true) true Try.f7.params.toList args.toList ds p := hA0
  rw [Try.params7] at hA hval
  obtain ⟨v0, vs0, d0, ds0, p0, q0, hargs, rfl, rfl, h0, r0⟩ := trodAll_cons hA
  obtain ⟨v1, vs1, d1, ds1, p1, q1, rfl, rfl, rfl, h1, r1⟩ := trodAll_cons r0
  obtain ⟨v2, vs2, d2, ds2, p2, q2, rfl, rfl, rfl, h2, r2⟩ := trodAll_cons r1
  obtain ⟨rfl, rfl, rfl⟩ := trodAll_nil r2
  obtain rfl : args = #[v0, v1, v2] := by cases args; simp_all
  obtain ⟨rfl, rfl⟩ := trodVars_none hV
  obtain ⟨a0, len0, cap0, rfl⟩ := okWide_slice Try.underlying23 (hval 0 23 v0 rfl rfl)
  have k0 := h0
  have lt0 : ∀ x ∈ p0, x.block < W.heap.size := by obtain ⟨m, hm⟩ := k0; exact DataW.trod_lt m _ _ _ hm
  obtain ⟨z0, w0⟩ : ∃ zs, IsRow .u64 W a0 len0 cap0 zs := by
    obtain ⟨fuel, hf⟩ := h0
    rcases open_ints Try.underlying23 Try.underlying34 (by kernel_rfl) hf with ⟨hcs, _⟩ | ⟨x, l, c, zs, hcs, _, hl, hm, hz, _, hcell, hwz⟩
    · simp [Value.cells] at hcs
      obtain ⟨rfl, rfl, rfl⟩ := hcs
      exact ⟨[], .inl ⟨rfl, rfl, rfl, rfl⟩⟩
    · simp [Value.cells] at hcs
      obtain ⟨rfl, rfl, rfl⟩ := hcs
      exact ⟨zs, .inr ⟨_, rfl, hl, hm, by simpa using hz, hcell, hwz⟩⟩
  obtain ⟨a1, len1, cap1, rfl⟩ := okWide_slice Try.underlying23 (hval 1 23 v1 rfl rfl)
  have k1 := h1
  have lt1 : ∀ x ∈ p1, x.block < W.heap.size := by obtain ⟨m, hm⟩ := k1; exact DataW.trod_lt m _ _ _ hm
  obtain ⟨z1, w1⟩ : ∃ zs, IsRow .u64 W a1 len1 cap1 zs := by
    obtain ⟨fuel, hf⟩ := h1
    rcases open_ints Try.underlying23 Try.underlying34 (by kernel_rfl) hf with ⟨hcs, _⟩ | ⟨x, l, c, zs, hcs, _, hl, hm, hz, _, hcell, hwz⟩
    · simp [Value.cells] at hcs
      obtain ⟨rfl, rfl, rfl⟩ := hcs
      exact ⟨[], .inl ⟨rfl, rfl, rfl, rfl⟩⟩
    · simp [Value.cells] at hcs
      obtain ⟨rfl, rfl, rfl⟩ := hcs
      exact ⟨zs, .inr ⟨_, rfl, hl, hm, by simpa using hz, hcell, hwz⟩⟩
  obtain ⟨a2, rfl, rfl, rfl, w2⟩ := open_int Try.underlying3 (hval 2 3 v2 rfl rfl) h2
  clear hA0 hval0
  refine (walk a0 len0 cap0 z0 a1 len1 cap1 z1 a2 W w0 w1 w2).mono fun e W' ⟨he, bel⟩ => ?_
  subst he
  exact ⟨_, rfl, _, _, _, [], _, [], hW', trodAll_mk1 (shut_bool Try.underlying4 _), (trodAll_cons_mk (Below.trod laidOut (by kernel_rfl) (of_decide_eq_true (by kernel_rfl)) k0 bel lt0) (trodAll_cons_mk (Below.trod laidOut (by kernel_rfl) (of_decide_eq_true (by kernel_rfl)) k1 bel lt1) (trodAll_cons_mk (shut_int Try.underlying3 w2) trodAll_mk0))), rfl, bel.frame _, fun h => by cases h⟩

theorem over : Rows.natProductsRow.holds Try.pinned (OpenSpec.ofChange Rows.natProductsSpec) :=
  OpenClaim.holds_of_wide 7 Try.f7 rfl rfl rfl rfl rfl rfl rfl ⟨rfl, rfl, rfl, rfl, rfl⟩ rfl rfl rfl rfl rfl (by kernel_rfl) Try.func7 (by kernel_rfl)
    (of_decide_eq_true (by kernel_rfl)) (by unfold Func.isWrapper; first | (rw [if_pos (by decide +kernel)]; kernel_rfl) | (rw [if_neg (by decide +kernel)]; exact ⟨rfl, rfl⟩))
    (fun os started H enc _ => lifted os started H enc)

/-- ████ THE STATEMENT ████ -/
theorem proved : Rows.NatProductsSaid := over
#print axioms proved
end Go.Proofs.Ytacjfbjhkogdaaa.natProducts
