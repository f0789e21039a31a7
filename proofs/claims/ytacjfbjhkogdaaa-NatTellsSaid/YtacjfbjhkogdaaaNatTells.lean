/- The statement NatTells: what any natural is without 0s at the end, whether it is 0, as a number, its length, any place of it, and how any two stand to each other, are the document's; what is told may be written over. No condition. -/
import Derived.Test.YtacjfbjhkogdaaaRows
import Derived.WalkKit
import Derived.ProofKit
import Derived.OpenShut
import Derived.Test.YtacjfbjhkogdaaaNatEnd
import Derived.ShutString
import Derived.ChangeOld
import Derived.Below
namespace Go.Proofs.Ytacjfbjhkogdaaa.natTells
open Go.ChangeShapes Go.WideShapes Go.ChangeAt Go.RowKit
open Go.Proofs
open Go.ChangeMaps (open_string shut_string)
set_option linter.unusedVariables false

theorem own : ownKnob Try.prog.godebug = none := by kernel_rfl
theorem laidOut : laidOutB Try.prog = true := by kernel_rfl

/-- WHAT THE WALK IS TOLD OF A SLICE OF INTEGERS THAT CAME IN: it is nil; or it leads to a row of 'cap' cells, the numbers 'zs' (the first 'len' are its elements, the rest its spare room), each fitting its kind. -/
def IsRow (k : IntKind) (w : World) (a : Option Addr) (len cap : Nat) (zs : List Int) : Prop :=
  (a = none ∧ len = 0 ∧ cap = 0 ∧ zs = []) ∨
  ∃ x, a = some x ∧ len ≤ cap ∧ cap ≤ maxLen ∧ zs.length = cap ∧ (∀ i, i < zs.length → w.cell? (x.add i) = some (.int k (zs.getD i 0))) ∧ ∀ n ∈ zs, (Lit.int k n).wf = true

open Go.Proofs.NP Go.Proofs.SL Go.Proofs.NR Go.Lib
set_option linter.unusedSimpArgs false

/-! ### STEP 1: THE WALK: the Go text returns true, AND WRITES NOTHING THAT WAS THERE: 'Below w.heap.size w w'' (Derived/Below.lean: '.refl', '.alloc', '.drew', '.setCell' at a new block, '.trans'). Open each 'IsRow' by 'rcases' AHEAD of 'go_enter'; part every test ahead of the walk. -/
set_option maxHeartbeats 16000000 in
set_option maxRecDepth 100000 in
theorem walk (a0 : Option Addr) (len0 cap0 : Nat) (z0 : List Int) (a1 : Option Addr) (len1 cap1 : Nat) (z1 : List Int) (a2 : Int) (a3 : Int) (w : World) (w0 : IsRow .u64 w a0 len0 cap0 z0) (w1 : IsRow .u64 w a1 len1 cap1 z1) (w2 : (Lit.int .u64 a2).wf = true) (w3 : (Lit.int .i64 a3).wf = true) :
    Calls Try.prog 10 #[.slice a0 len0 cap0, .slice a1 len1 cap1, .int .u64 a2, .int .i64 a3] w fun e w' => e = .returned (.bool true) ∧ Below w.heap.size w w' := by
  obtain ⟨xs, rfl, Sx⟩ := LN.rows w0
  obtain ⟨ys, rfl, Sy⟩ := LN.rows w1
  have K : Kp w w := Kp.refl w
  have bn := bounds_u64 w2
  have bp := bounds_i64 w3
  clear w2 w3
  clear w0 w1
  by_cases hs : ¬ (xs.length ≤ 24 ∧ ys.length ≤ 24)
  · have hz : true = (decide (24 < xs.length) || decide (24 < ys.length)) := by simp; omega
    clear hs
    have HZ := Lib.hid hz; clear hz
    go_enter Try.func10, Try.ntmps10
    go_wp2_with fail
    refine (LN.long2 (by simp) true HZ).mono ?_; rintro e w' ⟨rfl, rfl⟩
    go_wp2_with fail
    refine (LN.awake _).mono ?_; rintro e u1 ⟨rfl, hb⟩
    replace Sx : Rd u1 a0 cap0 (xs) := Rd.nx (by repeat (first | with_reducible exact Sx | with_reducible apply Rd.al | with_reducible apply Rd.dr | with_reducible apply Rd.dr1)) hb
    replace Sy : Rd u1 a1 cap1 (ys) := Rd.nx (by repeat (first | with_reducible exact Sy | with_reducible apply Rd.al | with_reducible apply Rd.dr | with_reducible apply Rd.dr1)) hb
    replace K : Kp w u1 := Kp.nx (by repeat (first | with_reducible exact K | with_reducible apply Kp.al | with_reducible apply Kp.dr | with_reducible apply Kp.dr1)) hb
    clear hb
    go_wp2_with fail
    go_ret
    exact ⟨rfl, Kp.below (by repeat (first | with_reducible exact K | with_reducible apply Kp.al | with_reducible apply Kp.dr | with_reducible apply Kp.dr1))⟩
  obtain ⟨n0, n1⟩ : xs.length ≤ 24 ∧ ys.length ≤ 24 := by omega
  clear hs
  have hz : false = (decide (24 < xs.length) || decide (24 < ys.length)) := by simp; omega
  have HZ := Lib.hid hz; clear hz
  have fx : Fits (V xs) 24 := Fits.of Sx.ws (by omega)
  obtain ⟨n, rfl⟩ : ∃ n : Nat, a2 = n := ⟨a2.toNat, by omega⟩
  have bn2 : n < 18446744073709551616 := by omega
  have bp2 : a3 ≤ 9223372036854775807 := by omega
  obtain ⟨jt, hjt⟩ : ∃ z, z = L (V xs) := ⟨_, rfl⟩
  have lt : jt.length ≤ 24 := by rw [hjt]; exact fx.len
  have Hjt := Lib.hid hjt; clear hjt
  obtain ⟨jo, hjo⟩ : ∃ z, z = L n := ⟨_, rfl⟩
  have lo : jo.length ≤ 1 := by rw [hjo]; exact L_len n 1 (by simpa using bn2)
  have Hjo := Lib.hid hjo; clear hjo
  obtain ⟨sn, hsn⟩ : ∃ z, z = RN.smN (V xs) := ⟨_, rfl⟩
  have Hsn := Lib.hid hsn; clear hsn
  obtain ⟨sb, hsb⟩ : ∃ z, z = RN.smB (V xs) := ⟨_, rfl⟩
  have Hsb := Lib.hid hsb; clear hsb
  obtain ⟨zb, hzb⟩ : ∃ z, z = (V xs == 0) := ⟨_, rfl⟩
  obtain ⟨ln, hln⟩ : ∃ z, z = bitLen (V xs) := ⟨_, rfl⟩
  have T : (((ln : Nat) : Int) == 0) = zb := by rw [hzb, hln]; exact RN.len_zero _
  have Hzb := Lib.hid hzb; clear hzb
  have Hln := Lib.hid hln; clear hln
  obtain ⟨cz, hcz⟩ : ∃ z, z = NT.cmpI (V xs) (V ys) := ⟨_, rfl⟩
  have Hcz := Lib.hid hcz; clear hcz
  obtain ⟨bz, hbz⟩ : ∃ z, z = RN.bitZ (V xs) a3 := ⟨_, rfl⟩
  have Hbz := Lib.hid hbz; clear hbz
  clear fx bn bp
  go_enter Try.func10, Try.ntmps10
  go_wp2_with fail
  refine (LN.long2 (by simp) false HZ).mono ?_; rintro e w' ⟨rfl, rfl⟩
  have Bx : Rd w a0 cap0 (xs) := (by repeat (first | with_reducible exact Sx | with_reducible apply Rd.al | with_reducible apply Rd.dr | with_reducible apply Rd.dr1))
  have By : Rd w a1 cap1 (ys) := (by repeat (first | with_reducible exact Sy | with_reducible apply Rd.al | with_reducible apply Rd.dr | with_reducible apply Rd.dr1))
  go_wp2_with fail
  refine (RN.small1 (xs := xs) (by repeat (first | with_reducible exact Sx | with_reducible apply Rd.al | with_reducible apply Rd.dr | with_reducible apply Rd.dr1)) rfl (by omega) sn sb Hsn.out Hsb.out).mono ?_; rintro e w' ⟨rfl, rfl⟩
  go_wp2_with fail
  refine (RN.small2 (xs := xs) (by repeat (first | with_reducible exact Sx | with_reducible apply Rd.al | with_reducible apply Rd.dr | with_reducible apply Rd.dr1)) rfl (by omega) sn sb Hsn.out Hsb.out).mono ?_; rintro e u1 ⟨rfl, hb⟩
  replace Sx : Rd u1 a0 cap0 (xs) := Rd.nx (by repeat (first | with_reducible exact Sx | with_reducible apply Rd.al | with_reducible apply Rd.dr | with_reducible apply Rd.dr1)) hb
  replace Sy : Rd u1 a1 cap1 (ys) := Rd.nx (by repeat (first | with_reducible exact Sy | with_reducible apply Rd.al | with_reducible apply Rd.dr | with_reducible apply Rd.dr1)) hb
  replace K : Kp w u1 := Kp.nx (by repeat (first | with_reducible exact K | with_reducible apply Kp.al | with_reducible apply Kp.dr | with_reducible apply Kp.dr1)) hb
  clear hb
  go_wp2_with fail
  refine (NR.trim (zs := jt) (xs := xs) (by repeat (first | with_reducible exact Sx | with_reducible apply Rd.al | with_reducible apply Rd.dr | with_reducible apply Rd.dr1)) rfl (by omega) Hjt.out).mono ?_; rintro e u2 ⟨pt, qt, rfl, ho, hb⟩
  have Gt : ∀ k, blk pt = some k → w.heap.size ≤ k := RN.Own.from' ho (Below.size (show Kp w _ from (by repeat (first | with_reducible exact K | with_reducible apply Kp.al | with_reducible apply Kp.dr | with_reducible apply Kp.dr1))))
  replace Sx : Rd u2 a0 cap0 (xs) := Rd.nx (by repeat (first | with_reducible exact Sx | with_reducible apply Rd.al | with_reducible apply Rd.dr | with_reducible apply Rd.dr1)) hb
  replace Sy : Rd u2 a1 cap1 (ys) := Rd.nx (by repeat (first | with_reducible exact Sy | with_reducible apply Rd.al | with_reducible apply Rd.dr | with_reducible apply Rd.dr1)) hb
  replace K : Kp w u2 := Kp.nx (by repeat (first | with_reducible exact K | with_reducible apply Kp.al | with_reducible apply Kp.dr | with_reducible apply Kp.dr1)) hb
  have Ot : Own 34 _ u2 pt qt jt := ho
  have St : Rd u2 pt qt (jt) := ho.rd
  clear ho hb
  go_wp2_with fail
  refine ((NR.of n _ bn2).mono (fun _ _ h => Hjo.out.symm ▸ h)).mono ?_; rintro e u3 ⟨po, qo, rfl, ho, hb⟩
  have Go : ∀ k, blk po = some k → w.heap.size ≤ k := RN.Own.from' ho (Below.size (show Kp w _ from (by repeat (first | with_reducible exact K | with_reducible apply Kp.al | with_reducible apply Kp.dr | with_reducible apply Kp.dr1))))
  have Aot := RN.Own.apart (by repeat (first | with_reducible exact Ot | with_reducible apply Own.al | with_reducible apply Own.dr)) ho (Nat.le_refl _)
  replace Sx : Rd u3 a0 cap0 (xs) := Rd.nx (by repeat (first | with_reducible exact Sx | with_reducible apply Rd.al | with_reducible apply Rd.dr | with_reducible apply Rd.dr1)) hb
  replace Sy : Rd u3 a1 cap1 (ys) := Rd.nx (by repeat (first | with_reducible exact Sy | with_reducible apply Rd.al | with_reducible apply Rd.dr | with_reducible apply Rd.dr1)) hb
  replace St : Rd u3 pt qt (jt) := Rd.nx (by repeat (first | with_reducible exact St | with_reducible apply Rd.al | with_reducible apply Rd.dr | with_reducible apply Rd.dr1)) hb
  replace K : Kp w u3 := Kp.nx (by repeat (first | with_reducible exact K | with_reducible apply Kp.al | with_reducible apply Kp.dr | with_reducible apply Kp.dr1)) hb
  replace Ot : Own 34 _ u3 pt qt jt := Own.nx (by repeat (first | with_reducible exact Ot | with_reducible apply Own.al | with_reducible apply Own.dr)) hb
  have Oo : Own 34 _ u3 po qo jo := ho
  have So : Rd u3 po qo (jo) := ho.rd
  clear ho hb
  go_wp2_with fail
  refine (RN.trim (zs := jt) (xs := xs) (by repeat (first | with_reducible exact Sx | with_reducible apply Rd.al | with_reducible apply Rd.dr | with_reducible apply Rd.dr1)) rfl (by omega) Hjt.out).mono ?_; rintro e u4 ⟨pt2, qt2, rfl, ho, hb⟩
  replace Sx : Rd u4 a0 cap0 (xs) := Rd.nx (by repeat (first | with_reducible exact Sx | with_reducible apply Rd.al | with_reducible apply Rd.dr | with_reducible apply Rd.dr1)) hb
  replace Sy : Rd u4 a1 cap1 (ys) := Rd.nx (by repeat (first | with_reducible exact Sy | with_reducible apply Rd.al | with_reducible apply Rd.dr | with_reducible apply Rd.dr1)) hb
  replace St : Rd u4 pt qt (jt) := Rd.nx (by repeat (first | with_reducible exact St | with_reducible apply Rd.al | with_reducible apply Rd.dr | with_reducible apply Rd.dr1)) hb
  replace So : Rd u4 po qo (jo) := Rd.nx (by repeat (first | with_reducible exact So | with_reducible apply Rd.al | with_reducible apply Rd.dr | with_reducible apply Rd.dr1)) hb
  replace K : Kp w u4 := Kp.nx (by repeat (first | with_reducible exact K | with_reducible apply Kp.al | with_reducible apply Kp.dr | with_reducible apply Kp.dr1)) hb
  replace Ot : Own 34 _ u4 pt qt jt := Own.nx (by repeat (first | with_reducible exact Ot | with_reducible apply Own.al | with_reducible apply Own.dr)) hb
  replace Oo : Own 34 _ u4 po qo jo := Own.nx (by repeat (first | with_reducible exact Oo | with_reducible apply Own.al | with_reducible apply Own.dr)) hb
  have St2 : Rd u4 pt2 qt2 (jt) := ho.rd
  clear ho hb
  go_wp2_with fail
  refine (NR.same_yes (xs := jt) (ys := jt) (by repeat (first | with_reducible exact St | with_reducible apply Rd.al | with_reducible apply Rd.dr | with_reducible apply Rd.dr1)) (by repeat (first | with_reducible exact St2 | with_reducible apply Rd.al | with_reducible apply Rd.dr | with_reducible apply Rd.dr1)) rfl rfl (by omega) rfl).mono ?_; rintro e u5 ⟨rfl, hb⟩
  replace Sx : Rd u5 a0 cap0 (xs) := Rd.nx (by repeat (first | with_reducible exact Sx | with_reducible apply Rd.al | with_reducible apply Rd.dr | with_reducible apply Rd.dr1)) hb
  replace Sy : Rd u5 a1 cap1 (ys) := Rd.nx (by repeat (first | with_reducible exact Sy | with_reducible apply Rd.al | with_reducible apply Rd.dr | with_reducible apply Rd.dr1)) hb
  replace St : Rd u5 pt qt (jt) := Rd.nx (by repeat (first | with_reducible exact St | with_reducible apply Rd.al | with_reducible apply Rd.dr | with_reducible apply Rd.dr1)) hb
  replace So : Rd u5 po qo (jo) := Rd.nx (by repeat (first | with_reducible exact So | with_reducible apply Rd.al | with_reducible apply Rd.dr | with_reducible apply Rd.dr1)) hb
  replace St2 : Rd u5 pt2 qt2 (jt) := Rd.nx (by repeat (first | with_reducible exact St2 | with_reducible apply Rd.al | with_reducible apply Rd.dr | with_reducible apply Rd.dr1)) hb
  replace K : Kp w u5 := Kp.nx (by repeat (first | with_reducible exact K | with_reducible apply Kp.al | with_reducible apply Kp.dr | with_reducible apply Kp.dr1)) hb
  replace Ot : Own 34 _ u5 pt qt jt := Own.nx (by repeat (first | with_reducible exact Ot | with_reducible apply Own.al | with_reducible apply Own.dr)) hb
  replace Oo : Own 34 _ u5 po qo jo := Own.nx (by repeat (first | with_reducible exact Oo | with_reducible apply Own.al | with_reducible apply Own.dr)) hb
  clear hb
  clear St2
  go_wp2_with fail
  refine (RN.of (zs := jo) n _ bn2 Hjo.out).mono ?_; rintro e u6 ⟨po2, qo2, rfl, ho, hb⟩
  replace Sx : Rd u6 a0 cap0 (xs) := Rd.nx (by repeat (first | with_reducible exact Sx | with_reducible apply Rd.al | with_reducible apply Rd.dr | with_reducible apply Rd.dr1)) hb
  replace Sy : Rd u6 a1 cap1 (ys) := Rd.nx (by repeat (first | with_reducible exact Sy | with_reducible apply Rd.al | with_reducible apply Rd.dr | with_reducible apply Rd.dr1)) hb
  replace St : Rd u6 pt qt (jt) := Rd.nx (by repeat (first | with_reducible exact St | with_reducible apply Rd.al | with_reducible apply Rd.dr | with_reducible apply Rd.dr1)) hb
  replace So : Rd u6 po qo (jo) := Rd.nx (by repeat (first | with_reducible exact So | with_reducible apply Rd.al | with_reducible apply Rd.dr | with_reducible apply Rd.dr1)) hb
  replace K : Kp w u6 := Kp.nx (by repeat (first | with_reducible exact K | with_reducible apply Kp.al | with_reducible apply Kp.dr | with_reducible apply Kp.dr1)) hb
  replace Ot : Own 34 _ u6 pt qt jt := Own.nx (by repeat (first | with_reducible exact Ot | with_reducible apply Own.al | with_reducible apply Own.dr)) hb
  replace Oo : Own 34 _ u6 po qo jo := Own.nx (by repeat (first | with_reducible exact Oo | with_reducible apply Own.al | with_reducible apply Own.dr)) hb
  have So2 : Rd u6 po2 qo2 (jo) := ho.rd
  clear ho hb
  go_wp2_with fail
  refine (NR.same_yes (xs := jo) (ys := jo) (by repeat (first | with_reducible exact So | with_reducible apply Rd.al | with_reducible apply Rd.dr | with_reducible apply Rd.dr1)) (by repeat (first | with_reducible exact So2 | with_reducible apply Rd.al | with_reducible apply Rd.dr | with_reducible apply Rd.dr1)) rfl rfl (by omega) rfl).mono ?_; rintro e u7 ⟨rfl, hb⟩
  replace Sx : Rd u7 a0 cap0 (xs) := Rd.nx (by repeat (first | with_reducible exact Sx | with_reducible apply Rd.al | with_reducible apply Rd.dr | with_reducible apply Rd.dr1)) hb
  replace Sy : Rd u7 a1 cap1 (ys) := Rd.nx (by repeat (first | with_reducible exact Sy | with_reducible apply Rd.al | with_reducible apply Rd.dr | with_reducible apply Rd.dr1)) hb
  replace St : Rd u7 pt qt (jt) := Rd.nx (by repeat (first | with_reducible exact St | with_reducible apply Rd.al | with_reducible apply Rd.dr | with_reducible apply Rd.dr1)) hb
  replace So : Rd u7 po qo (jo) := Rd.nx (by repeat (first | with_reducible exact So | with_reducible apply Rd.al | with_reducible apply Rd.dr | with_reducible apply Rd.dr1)) hb
  replace So2 : Rd u7 po2 qo2 (jo) := Rd.nx (by repeat (first | with_reducible exact So2 | with_reducible apply Rd.al | with_reducible apply Rd.dr | with_reducible apply Rd.dr1)) hb
  replace K : Kp w u7 := Kp.nx (by repeat (first | with_reducible exact K | with_reducible apply Kp.al | with_reducible apply Kp.dr | with_reducible apply Kp.dr1)) hb
  replace Ot : Own 34 _ u7 pt qt jt := Own.nx (by repeat (first | with_reducible exact Ot | with_reducible apply Own.al | with_reducible apply Own.dr)) hb
  replace Oo : Own 34 _ u7 po qo jo := Own.nx (by repeat (first | with_reducible exact Oo | with_reducible apply Own.al | with_reducible apply Own.dr)) hb
  clear hb
  clear So2
  go_wp2_with fail
  refine (RN.spoil (xs := jt) Ot rfl (by omega)).mono ?_; rintro e u8 ⟨rfl, hg⟩
  replace K : Kp w u8 := Kp.grown K hg Gt
  replace Sx : Rd u8 a0 cap0 (xs) := Rd.nx Bx K
  replace Sy : Rd u8 a1 cap1 (ys) := Rd.nx By K
  clear St
  replace Oo : Own 34 _ u8 po qo jo := Own.kept Oo hg Aot
  replace So : Rd u8 po qo (jo) := Oo.rd
  clear hg Ot Gt
  go_wp2_with fail
  refine (RN.spoil (xs := jo) Oo rfl (by omega)).mono ?_; rintro e u9 ⟨rfl, hg⟩
  replace K : Kp w u9 := Kp.grown K hg Go
  replace Sx : Rd u9 a0 cap0 (xs) := Rd.nx Bx K
  replace Sy : Rd u9 a1 cap1 (ys) := Rd.nx By K
  clear So
  clear hg Oo Go
  go_wp2_with fail
  refine (NR.trim (zs := jt) (xs := xs) (by repeat (first | with_reducible exact Sx | with_reducible apply Rd.al | with_reducible apply Rd.dr | with_reducible apply Rd.dr1)) rfl (by omega) Hjt.out).mono ?_; rintro e u10 ⟨pt3, qt3, rfl, ho, hb⟩
  replace Sx : Rd u10 a0 cap0 (xs) := Rd.nx (by repeat (first | with_reducible exact Sx | with_reducible apply Rd.al | with_reducible apply Rd.dr | with_reducible apply Rd.dr1)) hb
  replace Sy : Rd u10 a1 cap1 (ys) := Rd.nx (by repeat (first | with_reducible exact Sy | with_reducible apply Rd.al | with_reducible apply Rd.dr | with_reducible apply Rd.dr1)) hb
  replace K : Kp w u10 := Kp.nx (by repeat (first | with_reducible exact K | with_reducible apply Kp.al | with_reducible apply Kp.dr | with_reducible apply Kp.dr1)) hb
  have St3 : Rd u10 pt3 qt3 (jt) := ho.rd
  clear ho hb
  go_wp2_with fail
  refine (RN.trim (zs := jt) (xs := xs) (by repeat (first | with_reducible exact Sx | with_reducible apply Rd.al | with_reducible apply Rd.dr | with_reducible apply Rd.dr1)) rfl (by omega) Hjt.out).mono ?_; rintro e u11 ⟨pt4, qt4, rfl, ho, hb⟩
  replace Sx : Rd u11 a0 cap0 (xs) := Rd.nx (by repeat (first | with_reducible exact Sx | with_reducible apply Rd.al | with_reducible apply Rd.dr | with_reducible apply Rd.dr1)) hb
  replace Sy : Rd u11 a1 cap1 (ys) := Rd.nx (by repeat (first | with_reducible exact Sy | with_reducible apply Rd.al | with_reducible apply Rd.dr | with_reducible apply Rd.dr1)) hb
  replace St3 : Rd u11 pt3 qt3 (jt) := Rd.nx (by repeat (first | with_reducible exact St3 | with_reducible apply Rd.al | with_reducible apply Rd.dr | with_reducible apply Rd.dr1)) hb
  replace K : Kp w u11 := Kp.nx (by repeat (first | with_reducible exact K | with_reducible apply Kp.al | with_reducible apply Kp.dr | with_reducible apply Kp.dr1)) hb
  have St4 : Rd u11 pt4 qt4 (jt) := ho.rd
  clear ho hb
  go_wp2_with fail
  refine (NR.same_yes (xs := jt) (ys := jt) (by repeat (first | with_reducible exact St3 | with_reducible apply Rd.al | with_reducible apply Rd.dr | with_reducible apply Rd.dr1)) (by repeat (first | with_reducible exact St4 | with_reducible apply Rd.al | with_reducible apply Rd.dr | with_reducible apply Rd.dr1)) rfl rfl (by omega) rfl).mono ?_; rintro e u12 ⟨rfl, hb⟩
  replace Sx : Rd u12 a0 cap0 (xs) := Rd.nx (by repeat (first | with_reducible exact Sx | with_reducible apply Rd.al | with_reducible apply Rd.dr | with_reducible apply Rd.dr1)) hb
  replace Sy : Rd u12 a1 cap1 (ys) := Rd.nx (by repeat (first | with_reducible exact Sy | with_reducible apply Rd.al | with_reducible apply Rd.dr | with_reducible apply Rd.dr1)) hb
  replace St3 : Rd u12 pt3 qt3 (jt) := Rd.nx (by repeat (first | with_reducible exact St3 | with_reducible apply Rd.al | with_reducible apply Rd.dr | with_reducible apply Rd.dr1)) hb
  replace St4 : Rd u12 pt4 qt4 (jt) := Rd.nx (by repeat (first | with_reducible exact St4 | with_reducible apply Rd.al | with_reducible apply Rd.dr | with_reducible apply Rd.dr1)) hb
  replace K : Kp w u12 := Kp.nx (by repeat (first | with_reducible exact K | with_reducible apply Kp.al | with_reducible apply Kp.dr | with_reducible apply Kp.dr1)) hb
  clear hb
  clear St3
  clear St4
  go_wp2_with fail
  refine (NR.zero (xs := xs) (by repeat (first | with_reducible exact Sx | with_reducible apply Rd.al | with_reducible apply Rd.dr | with_reducible apply Rd.dr1)) rfl (by omega) zb Hzb.out).mono ?_; rintro e w' ⟨rfl, rfl⟩
  go_wp2_with fail
  refine (RN.len (xs := xs) (by repeat (first | with_reducible exact Sx | with_reducible apply Rd.al | with_reducible apply Rd.dr | with_reducible apply Rd.dr1)) rfl (by omega) ln Hln.out).mono ?_; rintro e u13 ⟨rfl, hb⟩
  replace Sx : Rd u13 a0 cap0 (xs) := Rd.nx (by repeat (first | with_reducible exact Sx | with_reducible apply Rd.al | with_reducible apply Rd.dr | with_reducible apply Rd.dr1)) hb
  replace Sy : Rd u13 a1 cap1 (ys) := Rd.nx (by repeat (first | with_reducible exact Sy | with_reducible apply Rd.al | with_reducible apply Rd.dr | with_reducible apply Rd.dr1)) hb
  replace K : Kp w u13 := Kp.nx (by repeat (first | with_reducible exact K | with_reducible apply Kp.al | with_reducible apply Kp.dr | with_reducible apply Kp.dr1)) hb
  clear hb
  go_wp2_with fail
  refine (NR.cmp (xs := xs) (ys := ys) (by repeat (first | with_reducible exact Sx | with_reducible apply Rd.al | with_reducible apply Rd.dr | with_reducible apply Rd.dr1)) (by repeat (first | with_reducible exact Sy | with_reducible apply Rd.al | with_reducible apply Rd.dr | with_reducible apply Rd.dr1)) rfl rfl (by omega) (by omega) cz Hcz.out).mono ?_; rintro e w' ⟨rfl, rfl⟩
  go_wp2_with fail
  refine (RN.cmp (xs := xs) (ys := ys) (by repeat (first | with_reducible exact Sx | with_reducible apply Rd.al | with_reducible apply Rd.dr | with_reducible apply Rd.dr1)) (by repeat (first | with_reducible exact Sy | with_reducible apply Rd.al | with_reducible apply Rd.dr | with_reducible apply Rd.dr1)) rfl rfl (by omega) (by omega) cz Hcz.out).mono ?_; rintro e u14 ⟨rfl, hb⟩
  replace Sx : Rd u14 a0 cap0 (xs) := Rd.nx (by repeat (first | with_reducible exact Sx | with_reducible apply Rd.al | with_reducible apply Rd.dr | with_reducible apply Rd.dr1)) hb
  replace Sy : Rd u14 a1 cap1 (ys) := Rd.nx (by repeat (first | with_reducible exact Sy | with_reducible apply Rd.al | with_reducible apply Rd.dr | with_reducible apply Rd.dr1)) hb
  replace K : Kp w u14 := Kp.nx (by repeat (first | with_reducible exact K | with_reducible apply Kp.al | with_reducible apply Kp.dr | with_reducible apply Kp.dr1)) hb
  clear hb
  go_wp2_with fail
  refine (NR.len (xs := xs) (by repeat (first | with_reducible exact Sx | with_reducible apply Rd.al | with_reducible apply Rd.dr | with_reducible apply Rd.dr1)) rfl (by omega) ln Hln.out).mono ?_; rintro e w' ⟨rfl, rfl⟩
  go_wp2_with fail
  refine (RN.len (xs := xs) (by repeat (first | with_reducible exact Sx | with_reducible apply Rd.al | with_reducible apply Rd.dr | with_reducible apply Rd.dr1)) rfl (by omega) ln Hln.out).mono ?_; rintro e u15 ⟨rfl, hb⟩
  replace Sx : Rd u15 a0 cap0 (xs) := Rd.nx (by repeat (first | with_reducible exact Sx | with_reducible apply Rd.al | with_reducible apply Rd.dr | with_reducible apply Rd.dr1)) hb
  replace Sy : Rd u15 a1 cap1 (ys) := Rd.nx (by repeat (first | with_reducible exact Sy | with_reducible apply Rd.al | with_reducible apply Rd.dr | with_reducible apply Rd.dr1)) hb
  replace K : Kp w u15 := Kp.nx (by repeat (first | with_reducible exact K | with_reducible apply Kp.al | with_reducible apply Kp.dr | with_reducible apply Kp.dr1)) hb
  clear hb
  go_wp2_with fail
  refine (RN.bit1 (xs := xs) (by repeat (first | with_reducible exact Sx | with_reducible apply Rd.al | with_reducible apply Rd.dr | with_reducible apply Rd.dr1)) rfl a3 bp2 bz Hbz.out).mono ?_; rintro e w' ⟨rfl, rfl⟩
  go_wp2_with fail
  refine (RN.bit2 (xs := xs) (by repeat (first | with_reducible exact Sx | with_reducible apply Rd.al | with_reducible apply Rd.dr | with_reducible apply Rd.dr1)) rfl (by omega) a3 bp2 bz Hbz.out).mono ?_; rintro e u16 ⟨rfl, hb⟩
  replace Sx : Rd u16 a0 cap0 (xs) := Rd.nx (by repeat (first | with_reducible exact Sx | with_reducible apply Rd.al | with_reducible apply Rd.dr | with_reducible apply Rd.dr1)) hb
  replace Sy : Rd u16 a1 cap1 (ys) := Rd.nx (by repeat (first | with_reducible exact Sy | with_reducible apply Rd.al | with_reducible apply Rd.dr | with_reducible apply Rd.dr1)) hb
  replace K : Kp w u16 := Kp.nx (by repeat (first | with_reducible exact K | with_reducible apply Kp.al | with_reducible apply Kp.dr | with_reducible apply Kp.dr1)) hb
  clear hb
  go_wp2_with fail
  refine (LN.awake _).mono ?_; rintro e u17 ⟨rfl, hb⟩
  replace Sx : Rd u17 a0 cap0 (xs) := Rd.nx (by repeat (first | with_reducible exact Sx | with_reducible apply Rd.al | with_reducible apply Rd.dr | with_reducible apply Rd.dr1)) hb
  replace Sy : Rd u17 a1 cap1 (ys) := Rd.nx (by repeat (first | with_reducible exact Sy | with_reducible apply Rd.al | with_reducible apply Rd.dr | with_reducible apply Rd.dr1)) hb
  replace K : Kp w u17 := Kp.nx (by repeat (first | with_reducible exact K | with_reducible apply Kp.al | with_reducible apply Kp.dr | with_reducible apply Kp.dr1)) hb
  clear hb
  go_wp2_with fail
  go_ret
  exact ⟨rfl, Kp.below (by repeat (first | with_reducible exact K | with_reducible apply Kp.al | with_reducible apply Kp.dr | with_reducible apply Kp.dr1))⟩

/-! ### THE ROW's STEP: WRITTEN OUT: LEAVE IT -/
set_option maxRecDepth 100000 in
theorem lifted (os : Os) (started : os.Started) (H : Type) (enc : TypeId × Value → H) :
    ReturnsInHanded {} Try.checked os 10 .any (Rows.natTellsSpec.pre6 enc Try.prog Try.f10 Rows.natTellsRow.domain false) (Rows.natTellsSpec.post enc Try.prog Try.f10 false true false false) := by
  refine returnsInHanded_of_change (C := Try.checked) own started (by kernel_rfl) Try.func10
    (ChangeSpec.witness6 (enc := enc) (C := Try.checked) false ⟨#[], #[.slice none 0 0, .slice none 0 0, .int .u64 0, .int .i64 0], []⟩ 8 (by kernel_rfl) (by kernel_rfl) (by kernel_rfl) (by kernel_rfl)) ?_
  intro W base args ds gs before hval0 hW hcnd _
  have hval : ∀ (j : Nat) t v, Try.f10.params[j]? = some t → args[j]? = some v → Value.okWide Try.prog W .any base t v := hval0
  have hW' := hW
  obtain ⟨p, q, hA0, hV, rfl, hfz, hnd⟩ := hW
  have hA : DataW.TrodAll enc Try.prog W 0 (fun _ => true) true Try.f10.params.toList args.toList ds p := hA0
  rw [Try.params10] at hA hval
  obtain ⟨v0, vs0, d0, ds0, p0, q0, hargs, rfl, rfl, h0, r0⟩ := trodAll_cons hA
  obtain ⟨v1, vs1, d1, ds1, p1, q1, rfl, rfl, rfl, h1, r1⟩ := trodAll_cons r0
  obtain ⟨v2, vs2, d2, ds2, p2, q2, rfl, rfl, rfl, h2, r2⟩ := trodAll_cons r1
  obtain ⟨v3, vs3, d3, ds3, p3, q3, rfl, rfl, rfl, h3, r3⟩ := trodAll_cons r2
  obtain ⟨rfl, rfl, rfl⟩ := trodAll_nil r3
  obtain rfl : args = #[v0, v1, v2, v3] := by cases args; simp_all
  obtain ⟨rfl, rfl⟩ := trodVars_none hV
  obtain ⟨a0, len0, cap0, rfl⟩ := okWide_slice Try.underlying23 (hval 0 23 v0 rfl rfl)
  have k0 := h0
  have lt0 : ∀ x ∈ p0, x.block < W.heap.size := by obtain ⟨m, hm⟩ := k0; exact DataW.trod_lt m _ _ _ hm
  obtain ⟨z0, w0⟩ : ∃ zs, IsRow .u64 W a0 len0 cap0 zs := by
    obtain ⟨fuel, hf⟩ := h0
    rcases open_ints Try.underlying23 Try.underlying34 (by kernel_rfl) hf with ⟨hcs, _⟩ | ⟨x, l, c, zs, hcs, _, hl, hm, hz, _, hcell, hwz⟩
    · simp [Value.cells] at hcs
      obtain ⟨rfl, rfl, rfl⟩ := hcs
      exact ⟨[], .inl ⟨rfl, rfl, rfl, rfl⟩⟩
    · simp [Value.cells] at hcs
      obtain ⟨rfl, rfl, rfl⟩ := hcs
      exact ⟨zs, .inr ⟨_, rfl, hl, hm, by simpa using hz, hcell, hwz⟩⟩
  obtain ⟨a1, len1, cap1, rfl⟩ := okWide_slice Try.underlying23 (hval 1 23 v1 rfl rfl)
  have k1 := h1
  have lt1 : ∀ x ∈ p1, x.block < W.heap.size := by obtain ⟨m, hm⟩ := k1; exact DataW.trod_lt m _ _ _ hm
  obtain ⟨z1, w1⟩ : ∃ zs, IsRow .u64 W a1 len1 cap1 zs := by
    obtain ⟨fuel, hf⟩ := h1
    rcases open_ints Try.underlying23 Try.underlying34 (by kernel_rfl) hf with ⟨hcs, _⟩ | ⟨x, l, c, zs, hcs, _, hl, hm, hz, _, hcell, hwz⟩
    · simp [Value.cells] at hcs
      obtain ⟨rfl, rfl, rfl⟩ := hcs
      exact ⟨[], .inl ⟨rfl, rfl, rfl, rfl⟩⟩
    · simp [Value.cells] at hcs
      obtain ⟨rfl, rfl, rfl⟩ := hcs
      exact ⟨zs, .inr ⟨_, rfl, hl, hm, by simpa using hz, hcell, hwz⟩⟩
  obtain ⟨a2, rfl, rfl, rfl, w2⟩ := open_int Try.underlying34 (hval 2 34 v2 rfl rfl) h2
  obtain ⟨a3, rfl, rfl, rfl, w3⟩ := open_int Try.underlying3 (hval 3 3 v3 rfl rfl) h3
  clear hA0 hval0
  refine (walk a0 len0 cap0 z0 a1 len1 cap1 z1 a2 a3 W w0 w1 w2 w3).mono fun e W' ⟨he, bel⟩ => ?_
  subst he
  exact ⟨_, rfl, _, _, _, [], _, [], hW', trodAll_mk1 (shut_bool Try.underlying4 _), (trodAll_cons_mk (Below.trod laidOut (by kernel_rfl) (of_decide_eq_true (by kernel_rfl)) k0 bel lt0) (trodAll_cons_mk (Below.trod laidOut (by kernel_rfl) (of_decide_eq_true (by kernel_rfl)) k1 bel lt1) (trodAll_cons_mk (shut_int Try.underlying34 w2) (trodAll_cons_mk (shut_int Try.underlying3 w3) trodAll_mk0)))), rfl, bel.frame _, fun h => by cases h⟩

theorem over : Rows.natTellsRow.holds Try.pinned (OpenSpec.ofChange Rows.natTellsSpec) :=
  OpenClaim.holds_of_wide 10 Try.f10 rfl rfl rfl rfl rfl rfl rfl ⟨rfl, rfl, rfl, rfl, rfl⟩ rfl rfl rfl rfl rfl (by kernel_rfl) Try.func10 (by kernel_rfl)
    (of_decide_eq_true (by kernel_rfl)) (by unfold Func.isWrapper; first | (rw [if_pos (by decide +kernel)]; kernel_rfl) | (rw [if_neg (by decide +kernel)]; exact ⟨rfl, rfl⟩))
    (fun os started H enc _ => lifted os started H enc)

/-- ████ THE STATEMENT ████ -/
theorem proved : Rows.NatTellsSaid := over
#print axioms proved
end Go.Proofs.Ytacjfbjhkogdaaa.natTells
