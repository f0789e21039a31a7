/- The statement NatTails: with 0s at the end all calls tell the same; nothing that is told has any. No condition. -/
import Derived.Test.YtacjfbjhkogdaaaRows
import Derived.WalkKit
import Derived.ProofKit
import Derived.OpenShut
import Derived.Test.YtacjfbjhkogdaaaNatTail
import Derived.ShutString
import Derived.ChangeOld
import Derived.Below
namespace Go.Proofs.Ytacjfbjhkogdaaa.natTails
open Go.ChangeShapes Go.WideShapes Go.ChangeAt Go.RowKit
open Go.Proofs
open Go.ChangeMaps (open_string shut_string)
set_option linter.unusedVariables false

theorem own : ownKnob Try.prog.godebug = none := by kernel_rfl
theorem laidOut : laidOutB Try.prog = true := by kernel_rfl

/-- WHAT THE WALK IS TOLD OF A SLICE OF INTEGERS THAT CAME IN: it is nil; or it leads to a row of 'cap' cells, the numbers 'zs' (the first 'len' are its elements, the rest its spare room), each fitting its kind. -/
def IsRow (k : IntKind) (w : World) (a : Option Addr) (len cap : Nat) (zs : List Int) : Prop :=
  (a = none ∧ len = 0 ∧ cap = 0 ∧ zs = []) ∨
  ∃ x, a = some x ∧ len ≤ cap ∧ cap ≤ maxLen ∧ zs.length = cap ∧ (∀ i, i < zs.length → w.cell? (x.add i) = some (.int k (zs.getD i 0))) ∧ ∀ n ∈ zs, (Lit.int k n).wf = true

open Go.Proofs.NP Go.Proofs.SL Go.Proofs.NR Go.Lib
set_option linter.unusedSimpArgs false
theorem nat8 (a : Int) (h : (Lit.int .u8 a).wf = true) : ∃ n : Nat, a = (n : Int) ∧ n ≤ 255 ∧ Hid (wrap64 (n : Int) = (n : Int)) := by
  have ⟨h0, h1⟩ := bounds_u8 h
  refine ⟨a.toNat, by omega, by omega, Lib.hid ?_⟩
  unfold wrap64; omega

/-! ### STEP 1: THE WALK: the Go text returns true, AND WRITES NOTHING THAT WAS THERE: 'Below w.heap.size w w'' (Derived/Below.lean: '.refl', '.alloc', '.drew', '.setCell' at a new block, '.trans'). Open each 'IsRow' by 'rcases' AHEAD of 'go_enter'; part every test ahead of the walk. -/
set_option maxHeartbeats 8000000 in
set_option maxRecDepth 100000 in
theorem walk (a0 : Option Addr) (len0 cap0 : Nat) (z0 : List Int) (a1 : Option Addr) (len1 cap1 : Nat) (z1 : List Int) (a2 : Int) (a3 : Int) (w : World) (w0 : IsRow .u64 w a0 len0 cap0 z0) (w1 : IsRow .u64 w a1 len1 cap1 z1) (w2 : (Lit.int .u8 a2).wf = true) (w3 : (Lit.int .u8 a3).wf = true) :
    Calls Try.prog 8 #[.slice a0 len0 cap0, .slice a1 len1 cap1, .int .u8 a2, .int .u8 a3] w fun e w' => e = .returned (.bool true) ∧ Below w.heap.size w w' := by
  obtain ⟨xs, rfl, Sx⟩ := LN.rows w0
  obtain ⟨ys, rfl, Sy⟩ := LN.rows w1
  have K : Kp w w := Kp.refl w
  have HC0 := Lib.hid (LN.rows_cap w0)
  have HC1 := Lib.hid (LN.rows_cap w1)
  clear w0 w1
  by_cases hs : ¬ (xs.length ≤ 24 ∧ ys.length ≤ 24)
  · have hz : true = (decide (24 < xs.length) || decide (24 < ys.length)) := by simp; omega
    clear hs
    have HZ := Lib.hid hz; clear hz
    go_enter Try.func8, Try.ntmps8
    go_wp2_with fail
    refine (LN.long2 (by simp) true HZ).mono ?_; rintro e w' ⟨rfl, rfl⟩
    go_wp2_with fail
    refine (LN.awake _).mono ?_; rintro e u1 ⟨rfl, hb⟩
    replace Sx : Rd u1 a0 cap0 (xs) := Rd.nx (by repeat (first | with_reducible exact Sx | with_reducible apply Rd.al | with_reducible apply Rd.dr | with_reducible apply Rd.dr1)) hb
    replace Sy : Rd u1 a1 cap1 (ys) := Rd.nx (by repeat (first | with_reducible exact Sy | with_reducible apply Rd.al | with_reducible apply Rd.dr | with_reducible apply Rd.dr1)) hb
    replace K : Kp w u1 := Kp.nx (by repeat (first | with_reducible exact K | with_reducible apply Kp.al | with_reducible apply Kp.dr | with_reducible apply Kp.dr1)) hb
    clear hb
    go_wp2_with fail
    go_ret
    exact ⟨rfl, Kp.below (by repeat (first | with_reducible exact K | with_reducible apply Kp.al | with_reducible apply Kp.dr | with_reducible apply Kp.dr1))⟩
  obtain ⟨n0, n1⟩ : xs.length ≤ 24 ∧ ys.length ≤ 24 := by omega
  clear hs
  have fx : Fits (V xs) 24 := Fits.of Sx.ws (by omega)
  have fy : Fits (V ys) 24 := Fits.of Sy.ws (by omega)
  have hz : false = (decide (24 < xs.length) || decide (24 < ys.length)) := by simp; omega
  have HZ := Lib.hid hz; clear hz
  obtain ⟨m, rfl, bm, Hm⟩ := nat8 a2 w2
  obtain ⟨n, rfl, bn, Hn⟩ := nat8 a3 w3
  clear w2 w3
  by_cases hlt : V xs < V ys
  · have HLT := Lib.hid hlt; clear hlt
    obtain ⟨z, hz⟩ : ∃ z : Int, z = NT.cmpI (V xs) (V ys) := ⟨_, rfl⟩
    have Hz := Lib.hid hz; clear hz
    obtain ⟨l, hl⟩ : ∃ l : Nat, l = bitLen (V xs) := ⟨_, rfl⟩
    have Hl := Lib.hid hl; clear hl
    obtain ⟨β, hβ⟩ : ∃ t : Bool, t = (V xs == 0) := ⟨_, rfl⟩
    have Hβ := Lib.hid hβ; clear hβ
    go_enter Try.func8, Try.ntmps8
    go_wp2_with fail
    refine (LN.long2 (by simp) false HZ).mono ?_; rintro e w' ⟨rfl, rfl⟩
    go_wp2_with fail
    refine (LN.awake _).mono ?_; rintro e u1 ⟨rfl, hb⟩
    replace Sx : Rd u1 a0 cap0 (xs) := Rd.nx (by repeat (first | with_reducible exact Sx | with_reducible apply Rd.al | with_reducible apply Rd.dr | with_reducible apply Rd.dr1)) hb
    replace Sy : Rd u1 a1 cap1 (ys) := Rd.nx (by repeat (first | with_reducible exact Sy | with_reducible apply Rd.al | with_reducible apply Rd.dr | with_reducible apply Rd.dr1)) hb
    replace K : Kp w u1 := Kp.nx (by repeat (first | with_reducible exact K | with_reducible apply Kp.al | with_reducible apply Kp.dr | with_reducible apply Kp.dr1)) hb
    clear hb
    obtain ⟨jc, hjc⟩ : ∃ z : List Nat, z = xs ++ List.replicate (m % 4) 0 := ⟨_, rfl⟩
    have Nc : Hid (V jc = V xs) := Lib.hid (by rw [hjc, LN.V_app])
    have lc : jc.length ≤ 27 := by rw [hjc, List.length_append, List.length_replicate]; omega
    have Hc := Lib.hid hjc; clear hjc
    go_wp2_with fail
    refine (LN.tailz (xs := xs) (zs := jc) (m % 4) (by repeat (first | with_reducible exact Sx | with_reducible apply Rd.al | with_reducible apply Rd.dr | with_reducible apply Rd.dr1)) rfl (by omega) _ (by omega) (by omega) HC0.out Hc.out).mono ?_; rintro e u2 ⟨pc, qc, rfl, ho, hb⟩
    replace Sx : Rd u2 a0 cap0 (xs) := Rd.nx (by repeat (first | with_reducible exact Sx | with_reducible apply Rd.al | with_reducible apply Rd.dr | with_reducible apply Rd.dr1)) hb
    replace Sy : Rd u2 a1 cap1 (ys) := Rd.nx (by repeat (first | with_reducible exact Sy | with_reducible apply Rd.al | with_reducible apply Rd.dr | with_reducible apply Rd.dr1)) hb
    replace K : Kp w u2 := Kp.nx (by repeat (first | with_reducible exact K | with_reducible apply Kp.al | with_reducible apply Kp.dr | with_reducible apply Kp.dr1)) hb
    have Sc : Rd u2 pc qc (jc) := ho.rd
    clear ho hb
    obtain ⟨jd, hjd⟩ : ∃ z : List Nat, z = ys ++ List.replicate (m / 4 % 4) 0 := ⟨_, rfl⟩
    have Nd : Hid (V jd = V ys) := Lib.hid (by rw [hjd, LN.V_app])
    have ld : jd.length ≤ 27 := by rw [hjd, List.length_append, List.length_replicate]; omega
    have Hd := Lib.hid hjd; clear hjd
    go_wp2_with fail
    refine (LN.tailz (xs := ys) (zs := jd) (m / 4 % 4) (by repeat (first | with_reducible exact Sy | with_reducible apply Rd.al | with_reducible apply Rd.dr | with_reducible apply Rd.dr1)) rfl (by omega) _ (by omega) (by omega) HC1.out Hd.out).mono ?_; rintro e u3 ⟨pd, qd, rfl, ho, hb⟩
    replace Sx : Rd u3 a0 cap0 (xs) := Rd.nx (by repeat (first | with_reducible exact Sx | with_reducible apply Rd.al | with_reducible apply Rd.dr | with_reducible apply Rd.dr1)) hb
    replace Sy : Rd u3 a1 cap1 (ys) := Rd.nx (by repeat (first | with_reducible exact Sy | with_reducible apply Rd.al | with_reducible apply Rd.dr | with_reducible apply Rd.dr1)) hb
    replace Sc : Rd u3 pc qc (jc) := Rd.nx (by repeat (first | with_reducible exact Sc | with_reducible apply Rd.al | with_reducible apply Rd.dr | with_reducible apply Rd.dr1)) hb
    replace K : Kp w u3 := Kp.nx (by repeat (first | with_reducible exact K | with_reducible apply Kp.al | with_reducible apply Kp.dr | with_reducible apply Kp.dr1)) hb
    have Sd : Rd u3 pd qd (jd) := ho.rd
    clear ho hb
    go_wp2_with fail
    refine (NR.sub_no (xs := xs) (ys := ys) (by repeat (first | with_reducible exact Sx | with_reducible apply Rd.al | with_reducible apply Rd.dr | with_reducible apply Rd.dr1)) (by repeat (first | with_reducible exact Sy | with_reducible apply Rd.al | with_reducible apply Rd.dr | with_reducible apply Rd.dr1)) rfl rfl (by omega) (by omega)  (by have := HLT.out; omega)).mono ?_; rintro e w' ⟨rfl, rfl⟩
    go_wp2_with fail
    refine (NR.sub_no (xs := jc) (ys := jd) (by repeat (first | with_reducible exact Sc | with_reducible apply Rd.al | with_reducible apply Rd.dr | with_reducible apply Rd.dr1)) (by repeat (first | with_reducible exact Sd | with_reducible apply Rd.al | with_reducible apply Rd.dr | with_reducible apply Rd.dr1)) rfl rfl (by omega) (by omega)  (by have := HLT.out; rw [Nc.out, Nd.out]; omega)).mono ?_; rintro e w' ⟨rfl, rfl⟩
    obtain ⟨je, hje⟩ : ∃ z : List Nat, z = L ((V xs) * 2 ^ n) := ⟨_, rfl⟩
    have Ne : Hid (V je = (V xs) * 2 ^ n) := Lib.hid (by rw [hje, V_L])
    have He := Lib.hid hje; clear hje
    go_wp2_with fail
    refine (NR.shl_ok (xs := jc) (zs := je) (by repeat (first | with_reducible exact Sc | with_reducible apply Rd.al | with_reducible apply Rd.dr | with_reducible apply Rd.dr1)) rfl (by omega) n (by omega) (He.out.trans (congrArg L (by first | with_reducible rfl | simp only [Nc.out, LN.V_nil, LN.V_one])))).mono ?_; rintro e u4 ⟨pe, qe, rfl, ho, hb⟩
    replace Sx : Rd u4 a0 cap0 (xs) := Rd.nx (by repeat (first | with_reducible exact Sx | with_reducible apply Rd.al | with_reducible apply Rd.dr | with_reducible apply Rd.dr1)) hb
    replace Sy : Rd u4 a1 cap1 (ys) := Rd.nx (by repeat (first | with_reducible exact Sy | with_reducible apply Rd.al | with_reducible apply Rd.dr | with_reducible apply Rd.dr1)) hb
    replace Sc : Rd u4 pc qc (jc) := Rd.nx (by repeat (first | with_reducible exact Sc | with_reducible apply Rd.al | with_reducible apply Rd.dr | with_reducible apply Rd.dr1)) hb
    replace Sd : Rd u4 pd qd (jd) := Rd.nx (by repeat (first | with_reducible exact Sd | with_reducible apply Rd.al | with_reducible apply Rd.dr | with_reducible apply Rd.dr1)) hb
    replace K : Kp w u4 := Kp.nx (by repeat (first | with_reducible exact K | with_reducible apply Kp.al | with_reducible apply Kp.dr | with_reducible apply Kp.dr1)) hb
    have Se : Rd u4 pe qe (je) := ho.rd
    clear ho hb
    obtain ⟨jf, hjf⟩ : ∃ z : List Nat, z = L ((V xs) / 2 ^ n) := ⟨_, rfl⟩
    have Nf : Hid (V jf = (V xs) / 2 ^ n) := Lib.hid (by rw [hjf, V_L])
    have Hf := Lib.hid hjf; clear hjf
    go_wp2_with fail
    refine (NR.shr_ok (xs := jc) (zs := jf) (by repeat (first | with_reducible exact Sc | with_reducible apply Rd.al | with_reducible apply Rd.dr | with_reducible apply Rd.dr1)) rfl (by omega) n (by omega) (Hf.out.trans (congrArg L (by first | with_reducible rfl | simp only [Nc.out, LN.V_nil, LN.V_one])))).mono ?_; rintro e u5 ⟨pf, qf, rfl, ho, hb⟩
    replace Sx : Rd u5 a0 cap0 (xs) := Rd.nx (by repeat (first | with_reducible exact Sx | with_reducible apply Rd.al | with_reducible apply Rd.dr | with_reducible apply Rd.dr1)) hb
    replace Sy : Rd u5 a1 cap1 (ys) := Rd.nx (by repeat (first | with_reducible exact Sy | with_reducible apply Rd.al | with_reducible apply Rd.dr | with_reducible apply Rd.dr1)) hb
    replace Sc : Rd u5 pc qc (jc) := Rd.nx (by repeat (first | with_reducible exact Sc | with_reducible apply Rd.al | with_reducible apply Rd.dr | with_reducible apply Rd.dr1)) hb
    replace Sd : Rd u5 pd qd (jd) := Rd.nx (by repeat (first | with_reducible exact Sd | with_reducible apply Rd.al | with_reducible apply Rd.dr | with_reducible apply Rd.dr1)) hb
    replace Se : Rd u5 pe qe (je) := Rd.nx (by repeat (first | with_reducible exact Se | with_reducible apply Rd.al | with_reducible apply Rd.dr | with_reducible apply Rd.dr1)) hb
    replace K : Kp w u5 := Kp.nx (by repeat (first | with_reducible exact K | with_reducible apply Kp.al | with_reducible apply Kp.dr | with_reducible apply Kp.dr1)) hb
    have Sf : Rd u5 pf qf (jf) := ho.rd
    clear ho hb
    obtain ⟨jg, hjg⟩ : ∃ z : List Nat, z = L ((V xs) * 2 ^ n) := ⟨_, rfl⟩
    have Ng : Hid (V jg = (V xs) * 2 ^ n) := Lib.hid (by rw [hjg, V_L])
    have Hg := Lib.hid hjg; clear hjg
    go_wp2_with fail
    refine (NR.shl_ok (xs := xs) (zs := jg) (by repeat (first | with_reducible exact Sx | with_reducible apply Rd.al | with_reducible apply Rd.dr | with_reducible apply Rd.dr1)) rfl (by omega) n (by omega) (Hg.out.trans (congrArg L (by first | with_reducible rfl | simp only [LN.V_nil, LN.V_one])))).mono ?_; rintro e u6 ⟨pg, qg, rfl, ho, hb⟩
    replace Sx : Rd u6 a0 cap0 (xs) := Rd.nx (by repeat (first | with_reducible exact Sx | with_reducible apply Rd.al | with_reducible apply Rd.dr | with_reducible apply Rd.dr1)) hb
    replace Sy : Rd u6 a1 cap1 (ys) := Rd.nx (by repeat (first | with_reducible exact Sy | with_reducible apply Rd.al | with_reducible apply Rd.dr | with_reducible apply Rd.dr1)) hb
    replace Sc : Rd u6 pc qc (jc) := Rd.nx (by repeat (first | with_reducible exact Sc | with_reducible apply Rd.al | with_reducible apply Rd.dr | with_reducible apply Rd.dr1)) hb
    replace Sd : Rd u6 pd qd (jd) := Rd.nx (by repeat (first | with_reducible exact Sd | with_reducible apply Rd.al | with_reducible apply Rd.dr | with_reducible apply Rd.dr1)) hb
    replace Se : Rd u6 pe qe (je) := Rd.nx (by repeat (first | with_reducible exact Se | with_reducible apply Rd.al | with_reducible apply Rd.dr | with_reducible apply Rd.dr1)) hb
    replace Sf : Rd u6 pf qf (jf) := Rd.nx (by repeat (first | with_reducible exact Sf | with_reducible apply Rd.al | with_reducible apply Rd.dr | with_reducible apply Rd.dr1)) hb
    replace K : Kp w u6 := Kp.nx (by repeat (first | with_reducible exact K | with_reducible apply Kp.al | with_reducible apply Kp.dr | with_reducible apply Kp.dr1)) hb
    have Sg : Rd u6 pg qg (jg) := ho.rd
    clear ho hb
    obtain ⟨jh, hjh⟩ : ∃ z : List Nat, z = L ((V xs) / 2 ^ n) := ⟨_, rfl⟩
    have Nh : Hid (V jh = (V xs) / 2 ^ n) := Lib.hid (by rw [hjh, V_L])
    have Hh := Lib.hid hjh; clear hjh
    go_wp2_with fail
    refine (NR.shr_ok (xs := xs) (zs := jh) (by repeat (first | with_reducible exact Sx | with_reducible apply Rd.al | with_reducible apply Rd.dr | with_reducible apply Rd.dr1)) rfl (by omega) n (by omega) (Hh.out.trans (congrArg L (by first | with_reducible rfl | simp only [LN.V_nil, LN.V_one])))).mono ?_; rintro e u7 ⟨ph, qh, rfl, ho, hb⟩
    replace Sx : Rd u7 a0 cap0 (xs) := Rd.nx (by repeat (first | with_reducible exact Sx | with_reducible apply Rd.al | with_reducible apply Rd.dr | with_reducible apply Rd.dr1)) hb
    replace Sy : Rd u7 a1 cap1 (ys) := Rd.nx (by repeat (first | with_reducible exact Sy | with_reducible apply Rd.al | with_reducible apply Rd.dr | with_reducible apply Rd.dr1)) hb
    replace Sc : Rd u7 pc qc (jc) := Rd.nx (by repeat (first | with_reducible exact Sc | with_reducible apply Rd.al | with_reducible apply Rd.dr | with_reducible apply Rd.dr1)) hb
    replace Sd : Rd u7 pd qd (jd) := Rd.nx (by repeat (first | with_reducible exact Sd | with_reducible apply Rd.al | with_reducible apply Rd.dr | with_reducible apply Rd.dr1)) hb
    replace Se : Rd u7 pe qe (je) := Rd.nx (by repeat (first | with_reducible exact Se | with_reducible apply Rd.al | with_reducible apply Rd.dr | with_reducible apply Rd.dr1)) hb
    replace Sf : Rd u7 pf qf (jf) := Rd.nx (by repeat (first | with_reducible exact Sf | with_reducible apply Rd.al | with_reducible apply Rd.dr | with_reducible apply Rd.dr1)) hb
    replace Sg : Rd u7 pg qg (jg) := Rd.nx (by repeat (first | with_reducible exact Sg | with_reducible apply Rd.al | with_reducible apply Rd.dr | with_reducible apply Rd.dr1)) hb
    replace K : Kp w u7 := Kp.nx (by repeat (first | with_reducible exact K | with_reducible apply Kp.al | with_reducible apply Kp.dr | with_reducible apply Kp.dr1)) hb
    have Sh : Rd u7 ph qh (jh) := ho.rd
    clear ho hb
    obtain ⟨js, hjs⟩ : ∃ z : List Nat, z = L ((V xs) + (V ys)) := ⟨_, rfl⟩
    have Ns : Hid (V js = (V xs) + (V ys)) := Lib.hid (by rw [hjs, V_L])
    have Hs := Lib.hid hjs; clear hjs
    go_wp2_with fail
    refine (NR.add (xs := jc) (ys := jd) (zs := js) (by repeat (first | with_reducible exact Sc | with_reducible apply Rd.al | with_reducible apply Rd.dr | with_reducible apply Rd.dr1)) (by repeat (first | with_reducible exact Sd | with_reducible apply Rd.al | with_reducible apply Rd.dr | with_reducible apply Rd.dr1)) rfl rfl (by omega) (by omega)  (Hs.out.trans (congrArg L (by first | with_reducible rfl | simp only [Nc.out, Nd.out, LN.V_nil, LN.V_one])))).mono ?_; rintro e u8 ⟨ps, qs, rfl, ho, hb⟩
    replace Sx : Rd u8 a0 cap0 (xs) := Rd.nx (by repeat (first | with_reducible exact Sx | with_reducible apply Rd.al | with_reducible apply Rd.dr | with_reducible apply Rd.dr1)) hb
    replace Sy : Rd u8 a1 cap1 (ys) := Rd.nx (by repeat (first | with_reducible exact Sy | with_reducible apply Rd.al | with_reducible apply Rd.dr | with_reducible apply Rd.dr1)) hb
    replace Sc : Rd u8 pc qc (jc) := Rd.nx (by repeat (first | with_reducible exact Sc | with_reducible apply Rd.al | with_reducible apply Rd.dr | with_reducible apply Rd.dr1)) hb
    replace Sd : Rd u8 pd qd (jd) := Rd.nx (by repeat (first | with_reducible exact Sd | with_reducible apply Rd.al | with_reducible apply Rd.dr | with_reducible apply Rd.dr1)) hb
    replace Se : Rd u8 pe qe (je) := Rd.nx (by repeat (first | with_reducible exact Se | with_reducible apply Rd.al | with_reducible apply Rd.dr | with_reducible apply Rd.dr1)) hb
    replace Sf : Rd u8 pf qf (jf) := Rd.nx (by repeat (first | with_reducible exact Sf | with_reducible apply Rd.al | with_reducible apply Rd.dr | with_reducible apply Rd.dr1)) hb
    replace Sg : Rd u8 pg qg (jg) := Rd.nx (by repeat (first | with_reducible exact Sg | with_reducible apply Rd.al | with_reducible apply Rd.dr | with_reducible apply Rd.dr1)) hb
    replace Sh : Rd u8 ph qh (jh) := Rd.nx (by repeat (first | with_reducible exact Sh | with_reducible apply Rd.al | with_reducible apply Rd.dr | with_reducible apply Rd.dr1)) hb
    replace K : Kp w u8 := Kp.nx (by repeat (first | with_reducible exact K | with_reducible apply Kp.al | with_reducible apply Kp.dr | with_reducible apply Kp.dr1)) hb
    have Ss : Rd u8 ps qs (js) := ho.rd
    clear ho hb
    obtain ⟨jt, hjt⟩ : ∃ z : List Nat, z = L ((V xs) * (V ys)) := ⟨_, rfl⟩
    have Nt : Hid (V jt = (V xs) * (V ys)) := Lib.hid (by rw [hjt, V_L])
    have Ht := Lib.hid hjt; clear hjt
    go_wp2_with fail
    refine (NR.mul (xs := jc) (ys := jd) (zs := jt) (by repeat (first | with_reducible exact Sc | with_reducible apply Rd.al | with_reducible apply Rd.dr | with_reducible apply Rd.dr1)) (by repeat (first | with_reducible exact Sd | with_reducible apply Rd.al | with_reducible apply Rd.dr | with_reducible apply Rd.dr1)) rfl rfl (by omega) (by omega)  (Ht.out.trans (congrArg L (by first | with_reducible rfl | simp only [Nc.out, Nd.out, LN.V_nil, LN.V_one])))).mono ?_; rintro e u9 ⟨pt, qt, rfl, ho, hb⟩
    replace Sx : Rd u9 a0 cap0 (xs) := Rd.nx (by repeat (first | with_reducible exact Sx | with_reducible apply Rd.al | with_reducible apply Rd.dr | with_reducible apply Rd.dr1)) hb
    replace Sy : Rd u9 a1 cap1 (ys) := Rd.nx (by repeat (first | with_reducible exact Sy | with_reducible apply Rd.al | with_reducible apply Rd.dr | with_reducible apply Rd.dr1)) hb
    replace Sc : Rd u9 pc qc (jc) := Rd.nx (by repeat (first | with_reducible exact Sc | with_reducible apply Rd.al | with_reducible apply Rd.dr | with_reducible apply Rd.dr1)) hb
    replace Sd : Rd u9 pd qd (jd) := Rd.nx (by repeat (first | with_reducible exact Sd | with_reducible apply Rd.al | with_reducible apply Rd.dr | with_reducible apply Rd.dr1)) hb
    replace Se : Rd u9 pe qe (je) := Rd.nx (by repeat (first | with_reducible exact Se | with_reducible apply Rd.al | with_reducible apply Rd.dr | with_reducible apply Rd.dr1)) hb
    replace Sf : Rd u9 pf qf (jf) := Rd.nx (by repeat (first | with_reducible exact Sf | with_reducible apply Rd.al | with_reducible apply Rd.dr | with_reducible apply Rd.dr1)) hb
    replace Sg : Rd u9 pg qg (jg) := Rd.nx (by repeat (first | with_reducible exact Sg | with_reducible apply Rd.al | with_reducible apply Rd.dr | with_reducible apply Rd.dr1)) hb
    replace Sh : Rd u9 ph qh (jh) := Rd.nx (by repeat (first | with_reducible exact Sh | with_reducible apply Rd.al | with_reducible apply Rd.dr | with_reducible apply Rd.dr1)) hb
    replace Ss : Rd u9 ps qs (js) := Rd.nx (by repeat (first | with_reducible exact Ss | with_reducible apply Rd.al | with_reducible apply Rd.dr | with_reducible apply Rd.dr1)) hb
    replace K : Kp w u9 := Kp.nx (by repeat (first | with_reducible exact K | with_reducible apply Kp.al | with_reducible apply Kp.dr | with_reducible apply Kp.dr1)) hb
    have St : Rd u9 pt qt (jt) := ho.rd
    clear ho hb
    go_wp2_with fail
    refine (NR.same_yes (xs := []) (ys := []) (by exact Rd.nil _) (by exact Rd.nil _) rfl rfl (by decide) rfl).mono ?_; rintro e u10 ⟨rfl, hb⟩
    replace Sx : Rd u10 a0 cap0 (xs) := Rd.nx (by repeat (first | with_reducible exact Sx | with_reducible apply Rd.al | with_reducible apply Rd.dr | with_reducible apply Rd.dr1)) hb
    replace Sy : Rd u10 a1 cap1 (ys) := Rd.nx (by repeat (first | with_reducible exact Sy | with_reducible apply Rd.al | with_reducible apply Rd.dr | with_reducible apply Rd.dr1)) hb
    replace Sc : Rd u10 pc qc (jc) := Rd.nx (by repeat (first | with_reducible exact Sc | with_reducible apply Rd.al | with_reducible apply Rd.dr | with_reducible apply Rd.dr1)) hb
    replace Sd : Rd u10 pd qd (jd) := Rd.nx (by repeat (first | with_reducible exact Sd | with_reducible apply Rd.al | with_reducible apply Rd.dr | with_reducible apply Rd.dr1)) hb
    replace Se : Rd u10 pe qe (je) := Rd.nx (by repeat (first | with_reducible exact Se | with_reducible apply Rd.al | with_reducible apply Rd.dr | with_reducible apply Rd.dr1)) hb
    replace Sf : Rd u10 pf qf (jf) := Rd.nx (by repeat (first | with_reducible exact Sf | with_reducible apply Rd.al | with_reducible apply Rd.dr | with_reducible apply Rd.dr1)) hb
    replace Sg : Rd u10 pg qg (jg) := Rd.nx (by repeat (first | with_reducible exact Sg | with_reducible apply Rd.al | with_reducible apply Rd.dr | with_reducible apply Rd.dr1)) hb
    replace Sh : Rd u10 ph qh (jh) := Rd.nx (by repeat (first | with_reducible exact Sh | with_reducible apply Rd.al | with_reducible apply Rd.dr | with_reducible apply Rd.dr1)) hb
    replace Ss : Rd u10 ps qs (js) := Rd.nx (by repeat (first | with_reducible exact Ss | with_reducible apply Rd.al | with_reducible apply Rd.dr | with_reducible apply Rd.dr1)) hb
    replace St : Rd u10 pt qt (jt) := Rd.nx (by repeat (first | with_reducible exact St | with_reducible apply Rd.al | with_reducible apply Rd.dr | with_reducible apply Rd.dr1)) hb
    replace K : Kp w u10 := Kp.nx (by repeat (first | with_reducible exact K | with_reducible apply Kp.al | with_reducible apply Kp.dr | with_reducible apply Kp.dr1)) hb
    clear hb
    go_wp2_with fail
    refine (NR.same_yes (xs := je) (ys := jg) (by repeat (first | with_reducible exact Se | with_reducible apply Rd.al | with_reducible apply Rd.dr | with_reducible apply Rd.dr1)) (by repeat (first | with_reducible exact Sg | with_reducible apply Rd.al | with_reducible apply Rd.dr | with_reducible apply Rd.dr1)) rfl rfl (Nat.le_trans (NR.len_of He.out (fx.shl _)) (by first | decide | omega)) (He.out.trans ((congrArg L rfl).trans Hg.out.symm))).mono ?_; rintro e u11 ⟨rfl, hb⟩
    replace Sx : Rd u11 a0 cap0 (xs) := Rd.nx (by repeat (first | with_reducible exact Sx | with_reducible apply Rd.al | with_reducible apply Rd.dr | with_reducible apply Rd.dr1)) hb
    replace Sy : Rd u11 a1 cap1 (ys) := Rd.nx (by repeat (first | with_reducible exact Sy | with_reducible apply Rd.al | with_reducible apply Rd.dr | with_reducible apply Rd.dr1)) hb
    replace Sc : Rd u11 pc qc (jc) := Rd.nx (by repeat (first | with_reducible exact Sc | with_reducible apply Rd.al | with_reducible apply Rd.dr | with_reducible apply Rd.dr1)) hb
    replace Sd : Rd u11 pd qd (jd) := Rd.nx (by repeat (first | with_reducible exact Sd | with_reducible apply Rd.al | with_reducible apply Rd.dr | with_reducible apply Rd.dr1)) hb
    replace Se : Rd u11 pe qe (je) := Rd.nx (by repeat (first | with_reducible exact Se | with_reducible apply Rd.al | with_reducible apply Rd.dr | with_reducible apply Rd.dr1)) hb
    replace Sf : Rd u11 pf qf (jf) := Rd.nx (by repeat (first | with_reducible exact Sf | with_reducible apply Rd.al | with_reducible apply Rd.dr | with_reducible apply Rd.dr1)) hb
    replace Sg : Rd u11 pg qg (jg) := Rd.nx (by repeat (first | with_reducible exact Sg | with_reducible apply Rd.al | with_reducible apply Rd.dr | with_reducible apply Rd.dr1)) hb
    replace Sh : Rd u11 ph qh (jh) := Rd.nx (by repeat (first | with_reducible exact Sh | with_reducible apply Rd.al | with_reducible apply Rd.dr | with_reducible apply Rd.dr1)) hb
    replace Ss : Rd u11 ps qs (js) := Rd.nx (by repeat (first | with_reducible exact Ss | with_reducible apply Rd.al | with_reducible apply Rd.dr | with_reducible apply Rd.dr1)) hb
    replace St : Rd u11 pt qt (jt) := Rd.nx (by repeat (first | with_reducible exact St | with_reducible apply Rd.al | with_reducible apply Rd.dr | with_reducible apply Rd.dr1)) hb
    replace K : Kp w u11 := Kp.nx (by repeat (first | with_reducible exact K | with_reducible apply Kp.al | with_reducible apply Kp.dr | with_reducible apply Kp.dr1)) hb
    clear hb
    go_wp2_with fail
    refine (NR.same_yes (xs := jf) (ys := jh) (by repeat (first | with_reducible exact Sf | with_reducible apply Rd.al | with_reducible apply Rd.dr | with_reducible apply Rd.dr1)) (by repeat (first | with_reducible exact Sh | with_reducible apply Rd.al | with_reducible apply Rd.dr | with_reducible apply Rd.dr1)) rfl rfl (Nat.le_trans (NR.len_of Hf.out (fx.div _)) (by first | decide | omega)) (Hf.out.trans ((congrArg L rfl).trans Hh.out.symm))).mono ?_; rintro e u12 ⟨rfl, hb⟩
    replace Sx : Rd u12 a0 cap0 (xs) := Rd.nx (by repeat (first | with_reducible exact Sx | with_reducible apply Rd.al | with_reducible apply Rd.dr | with_reducible apply Rd.dr1)) hb
    replace Sy : Rd u12 a1 cap1 (ys) := Rd.nx (by repeat (first | with_reducible exact Sy | with_reducible apply Rd.al | with_reducible apply Rd.dr | with_reducible apply Rd.dr1)) hb
    replace Sc : Rd u12 pc qc (jc) := Rd.nx (by repeat (first | with_reducible exact Sc | with_reducible apply Rd.al | with_reducible apply Rd.dr | with_reducible apply Rd.dr1)) hb
    replace Sd : Rd u12 pd qd (jd) := Rd.nx (by repeat (first | with_reducible exact Sd | with_reducible apply Rd.al | with_reducible apply Rd.dr | with_reducible apply Rd.dr1)) hb
    replace Se : Rd u12 pe qe (je) := Rd.nx (by repeat (first | with_reducible exact Se | with_reducible apply Rd.al | with_reducible apply Rd.dr | with_reducible apply Rd.dr1)) hb
    replace Sf : Rd u12 pf qf (jf) := Rd.nx (by repeat (first | with_reducible exact Sf | with_reducible apply Rd.al | with_reducible apply Rd.dr | with_reducible apply Rd.dr1)) hb
    replace Sg : Rd u12 pg qg (jg) := Rd.nx (by repeat (first | with_reducible exact Sg | with_reducible apply Rd.al | with_reducible apply Rd.dr | with_reducible apply Rd.dr1)) hb
    replace Sh : Rd u12 ph qh (jh) := Rd.nx (by repeat (first | with_reducible exact Sh | with_reducible apply Rd.al | with_reducible apply Rd.dr | with_reducible apply Rd.dr1)) hb
    replace Ss : Rd u12 ps qs (js) := Rd.nx (by repeat (first | with_reducible exact Ss | with_reducible apply Rd.al | with_reducible apply Rd.dr | with_reducible apply Rd.dr1)) hb
    replace St : Rd u12 pt qt (jt) := Rd.nx (by repeat (first | with_reducible exact St | with_reducible apply Rd.al | with_reducible apply Rd.dr | with_reducible apply Rd.dr1)) hb
    replace K : Kp w u12 := Kp.nx (by repeat (first | with_reducible exact K | with_reducible apply Kp.al | with_reducible apply Kp.dr | with_reducible apply Kp.dr1)) hb
    clear hb
    clear Sg
    clear Sh
    obtain ⟨ji, hji⟩ : ∃ z : List Nat, z = L ((V xs) + (V ys)) := ⟨_, rfl⟩
    have Ni : Hid (V ji = (V xs) + (V ys)) := Lib.hid (by rw [hji, V_L])
    have Hi := Lib.hid hji; clear hji
    go_wp2_with fail
    refine (NR.add (xs := xs) (ys := ys) (zs := ji) (by repeat (first | with_reducible exact Sx | with_reducible apply Rd.al | with_reducible apply Rd.dr | with_reducible apply Rd.dr1)) (by repeat (first | with_reducible exact Sy | with_reducible apply Rd.al | with_reducible apply Rd.dr | with_reducible apply Rd.dr1)) rfl rfl (by omega) (by omega)  (Hi.out.trans (congrArg L (by first | with_reducible rfl | simp only [LN.V_nil, LN.V_one])))).mono ?_; rintro e u13 ⟨pi, qi, rfl, ho, hb⟩
    replace Sx : Rd u13 a0 cap0 (xs) := Rd.nx (by repeat (first | with_reducible exact Sx | with_reducible apply Rd.al | with_reducible apply Rd.dr | with_reducible apply Rd.dr1)) hb
    replace Sy : Rd u13 a1 cap1 (ys) := Rd.nx (by repeat (first | with_reducible exact Sy | with_reducible apply Rd.al | with_reducible apply Rd.dr | with_reducible apply Rd.dr1)) hb
    replace Sc : Rd u13 pc qc (jc) := Rd.nx (by repeat (first | with_reducible exact Sc | with_reducible apply Rd.al | with_reducible apply Rd.dr | with_reducible apply Rd.dr1)) hb
    replace Sd : Rd u13 pd qd (jd) := Rd.nx (by repeat (first | with_reducible exact Sd | with_reducible apply Rd.al | with_reducible apply Rd.dr | with_reducible apply Rd.dr1)) hb
    replace Se : Rd u13 pe qe (je) := Rd.nx (by repeat (first | with_reducible exact Se | with_reducible apply Rd.al | with_reducible apply Rd.dr | with_reducible apply Rd.dr1)) hb
    replace Sf : Rd u13 pf qf (jf) := Rd.nx (by repeat (first | with_reducible exact Sf | with_reducible apply Rd.al | with_reducible apply Rd.dr | with_reducible apply Rd.dr1)) hb
    replace Ss : Rd u13 ps qs (js) := Rd.nx (by repeat (first | with_reducible exact Ss | with_reducible apply Rd.al | with_reducible apply Rd.dr | with_reducible apply Rd.dr1)) hb
    replace St : Rd u13 pt qt (jt) := Rd.nx (by repeat (first | with_reducible exact St | with_reducible apply Rd.al | with_reducible apply Rd.dr | with_reducible apply Rd.dr1)) hb
    replace K : Kp w u13 := Kp.nx (by repeat (first | with_reducible exact K | with_reducible apply Kp.al | with_reducible apply Kp.dr | with_reducible apply Kp.dr1)) hb
    have Si : Rd u13 pi qi (ji) := ho.rd
    clear ho hb
    go_wp2_with fail
    refine (NR.same_yes (xs := js) (ys := ji) (by repeat (first | with_reducible exact Ss | with_reducible apply Rd.al | with_reducible apply Rd.dr | with_reducible apply Rd.dr1)) (by repeat (first | with_reducible exact Si | with_reducible apply Rd.al | with_reducible apply Rd.dr | with_reducible apply Rd.dr1)) rfl rfl (Nat.le_trans (NR.len_of Hs.out (fx.add fy)) (by first | decide | omega)) (Hs.out.trans ((congrArg L rfl).trans Hi.out.symm))).mono ?_; rintro e u14 ⟨rfl, hb⟩
    replace Sx : Rd u14 a0 cap0 (xs) := Rd.nx (by repeat (first | with_reducible exact Sx | with_reducible apply Rd.al | with_reducible apply Rd.dr | with_reducible apply Rd.dr1)) hb
    replace Sy : Rd u14 a1 cap1 (ys) := Rd.nx (by repeat (first | with_reducible exact Sy | with_reducible apply Rd.al | with_reducible apply Rd.dr | with_reducible apply Rd.dr1)) hb
    replace Sc : Rd u14 pc qc (jc) := Rd.nx (by repeat (first | with_reducible exact Sc | with_reducible apply Rd.al | with_reducible apply Rd.dr | with_reducible apply Rd.dr1)) hb
    replace Sd : Rd u14 pd qd (jd) := Rd.nx (by repeat (first | with_reducible exact Sd | with_reducible apply Rd.al | with_reducible apply Rd.dr | with_reducible apply Rd.dr1)) hb
    replace Se : Rd u14 pe qe (je) := Rd.nx (by repeat (first | with_reducible exact Se | with_reducible apply Rd.al | with_reducible apply Rd.dr | with_reducible apply Rd.dr1)) hb
    replace Sf : Rd u14 pf qf (jf) := Rd.nx (by repeat (first | with_reducible exact Sf | with_reducible apply Rd.al | with_reducible apply Rd.dr | with_reducible apply Rd.dr1)) hb
    replace Ss : Rd u14 ps qs (js) := Rd.nx (by repeat (first | with_reducible exact Ss | with_reducible apply Rd.al | with_reducible apply Rd.dr | with_reducible apply Rd.dr1)) hb
    replace St : Rd u14 pt qt (jt) := Rd.nx (by repeat (first | with_reducible exact St | with_reducible apply Rd.al | with_reducible apply Rd.dr | with_reducible apply Rd.dr1)) hb
    replace Si : Rd u14 pi qi (ji) := Rd.nx (by repeat (first | with_reducible exact Si | with_reducible apply Rd.al | with_reducible apply Rd.dr | with_reducible apply Rd.dr1)) hb
    replace K : Kp w u14 := Kp.nx (by repeat (first | with_reducible exact K | with_reducible apply Kp.al | with_reducible apply Kp.dr | with_reducible apply Kp.dr1)) hb
    clear hb
    clear Si
    obtain ⟨jk, hjk⟩ : ∃ z : List Nat, z = L ((V xs) * (V ys)) := ⟨_, rfl⟩
    have Nk : Hid (V jk = (V xs) * (V ys)) := Lib.hid (by rw [hjk, V_L])
    have Hk := Lib.hid hjk; clear hjk
    go_wp2_with fail
    refine (NR.mul (xs := xs) (ys := ys) (zs := jk) (by repeat (first | with_reducible exact Sx | with_reducible apply Rd.al | with_reducible apply Rd.dr | with_reducible apply Rd.dr1)) (by repeat (first | with_reducible exact Sy | with_reducible apply Rd.al | with_reducible apply Rd.dr | with_reducible apply Rd.dr1)) rfl rfl (by omega) (by omega)  (Hk.out.trans (congrArg L (by first | with_reducible rfl | simp only [LN.V_nil, LN.V_one])))).mono ?_; rintro e u15 ⟨pk, qk, rfl, ho, hb⟩
    replace Sx : Rd u15 a0 cap0 (xs) := Rd.nx (by repeat (first | with_reducible exact Sx | with_reducible apply Rd.al | with_reducible apply Rd.dr | with_reducible apply Rd.dr1)) hb
    replace Sy : Rd u15 a1 cap1 (ys) := Rd.nx (by repeat (first | with_reducible exact Sy | with_reducible apply Rd.al | with_reducible apply Rd.dr | with_reducible apply Rd.dr1)) hb
    replace Sc : Rd u15 pc qc (jc) := Rd.nx (by repeat (first | with_reducible exact Sc | with_reducible apply Rd.al | with_reducible apply Rd.dr | with_reducible apply Rd.dr1)) hb
    replace Sd : Rd u15 pd qd (jd) := Rd.nx (by repeat (first | with_reducible exact Sd | with_reducible apply Rd.al | with_reducible apply Rd.dr | with_reducible apply Rd.dr1)) hb
    replace Se : Rd u15 pe qe (je) := Rd.nx (by repeat (first | with_reducible exact Se | with_reducible apply Rd.al | with_reducible apply Rd.dr | with_reducible apply Rd.dr1)) hb
    replace Sf : Rd u15 pf qf (jf) := Rd.nx (by repeat (first | with_reducible exact Sf | with_reducible apply Rd.al | with_reducible apply Rd.dr | with_reducible apply Rd.dr1)) hb
    replace Ss : Rd u15 ps qs (js) := Rd.nx (by repeat (first | with_reducible exact Ss | with_reducible apply Rd.al | with_reducible apply Rd.dr | with_reducible apply Rd.dr1)) hb
    replace St : Rd u15 pt qt (jt) := Rd.nx (by repeat (first | with_reducible exact St | with_reducible apply Rd.al | with_reducible apply Rd.dr | with_reducible apply Rd.dr1)) hb
    replace K : Kp w u15 := Kp.nx (by repeat (first | with_reducible exact K | with_reducible apply Kp.al | with_reducible apply Kp.dr | with_reducible apply Kp.dr1)) hb
    have Sk : Rd u15 pk qk (jk) := ho.rd
    clear ho hb
    go_wp2_with fail
    refine (NR.same_yes (xs := jt) (ys := jk) (by repeat (first | with_reducible exact St | with_reducible apply Rd.al | with_reducible apply Rd.dr | with_reducible apply Rd.dr1)) (by repeat (first | with_reducible exact Sk | with_reducible apply Rd.al | with_reducible apply Rd.dr | with_reducible apply Rd.dr1)) rfl rfl (Nat.le_trans (NR.len_of Ht.out (fx.mul fy)) (by first | decide | omega)) (Ht.out.trans ((congrArg L rfl).trans Hk.out.symm))).mono ?_; rintro e u16 ⟨rfl, hb⟩
    replace Sx : Rd u16 a0 cap0 (xs) := Rd.nx (by repeat (first | with_reducible exact Sx | with_reducible apply Rd.al | with_reducible apply Rd.dr | with_reducible apply Rd.dr1)) hb
    replace Sy : Rd u16 a1 cap1 (ys) := Rd.nx (by repeat (first | with_reducible exact Sy | with_reducible apply Rd.al | with_reducible apply Rd.dr | with_reducible apply Rd.dr1)) hb
    replace Sc : Rd u16 pc qc (jc) := Rd.nx (by repeat (first | with_reducible exact Sc | with_reducible apply Rd.al | with_reducible apply Rd.dr | with_reducible apply Rd.dr1)) hb
    replace Sd : Rd u16 pd qd (jd) := Rd.nx (by repeat (first | with_reducible exact Sd | with_reducible apply Rd.al | with_reducible apply Rd.dr | with_reducible apply Rd.dr1)) hb
    replace Se : Rd u16 pe qe (je) := Rd.nx (by repeat (first | with_reducible exact Se | with_reducible apply Rd.al | with_reducible apply Rd.dr | with_reducible apply Rd.dr1)) hb
    replace Sf : Rd u16 pf qf (jf) := Rd.nx (by repeat (first | with_reducible exact Sf | with_reducible apply Rd.al | with_reducible apply Rd.dr | with_reducible apply Rd.dr1)) hb
    replace Ss : Rd u16 ps qs (js) := Rd.nx (by repeat (first | with_reducible exact Ss | with_reducible apply Rd.al | with_reducible apply Rd.dr | with_reducible apply Rd.dr1)) hb
    replace St : Rd u16 pt qt (jt) := Rd.nx (by repeat (first | with_reducible exact St | with_reducible apply Rd.al | with_reducible apply Rd.dr | with_reducible apply Rd.dr1)) hb
    replace Sk : Rd u16 pk qk (jk) := Rd.nx (by repeat (first | with_reducible exact Sk | with_reducible apply Rd.al | with_reducible apply Rd.dr | with_reducible apply Rd.dr1)) hb
    replace K : Kp w u16 := Kp.nx (by repeat (first | with_reducible exact K | with_reducible apply Kp.al | with_reducible apply Kp.dr | with_reducible apply Kp.dr1)) hb
    clear hb
    clear Sk
    go_wp2_with fail
    refine (NR.cmp (xs := jc) (ys := jd) (by repeat (first | with_reducible exact Sc | with_reducible apply Rd.al | with_reducible apply Rd.dr | with_reducible apply Rd.dr1)) (by repeat (first | with_reducible exact Sd | with_reducible apply Rd.al | with_reducible apply Rd.dr | with_reducible apply Rd.dr1)) rfl rfl (by omega) (by omega) (z) (by rw [Nc.out, Nd.out]; exact Hz.out)).mono ?_; rintro e w' ⟨rfl, rfl⟩
    go_wp2_with fail
    refine (NR.cmp (xs := xs) (ys := ys) (by repeat (first | with_reducible exact Sx | with_reducible apply Rd.al | with_reducible apply Rd.dr | with_reducible apply Rd.dr1)) (by repeat (first | with_reducible exact Sy | with_reducible apply Rd.al | with_reducible apply Rd.dr | with_reducible apply Rd.dr1)) rfl rfl (by omega) (by omega) (z) Hz.out).mono ?_; rintro e w' ⟨rfl, rfl⟩
    go_wp2_with fail
    refine (NR.cmp (xs := xs) (ys := jc) (by repeat (first | with_reducible exact Sx | with_reducible apply Rd.al | with_reducible apply Rd.dr | with_reducible apply Rd.dr1)) (by repeat (first | with_reducible exact Sc | with_reducible apply Rd.al | with_reducible apply Rd.dr | with_reducible apply Rd.dr1)) rfl rfl (by omega) (by omega) (0) (by rw [Nc.out]; unfold NT.cmpI; simp)).mono ?_; rintro e w' ⟨rfl, rfl⟩
    go_wp2_with fail
    refine (NR.len (xs := jc) (by repeat (first | with_reducible exact Sc | with_reducible apply Rd.al | with_reducible apply Rd.dr | with_reducible apply Rd.dr1)) rfl (by omega) l (by rw [Nc.out]; exact Hl.out)).mono ?_; rintro e w' ⟨rfl, rfl⟩
    go_wp2_with fail
    refine (NR.len (xs := xs) (by repeat (first | with_reducible exact Sx | with_reducible apply Rd.al | with_reducible apply Rd.dr | with_reducible apply Rd.dr1)) rfl (by omega) l Hl.out).mono ?_; rintro e w' ⟨rfl, rfl⟩
    go_wp2_with fail
    refine (NR.zero (xs := jc) (by repeat (first | with_reducible exact Sc | with_reducible apply Rd.al | with_reducible apply Rd.dr | with_reducible apply Rd.dr1)) rfl (by omega) β (by rw [Nc.out]; exact Hβ.out)).mono ?_; rintro e w' ⟨rfl, rfl⟩
    go_wp2_with fail
    refine (NR.zero (xs := xs) (by repeat (first | with_reducible exact Sx | with_reducible apply Rd.al | with_reducible apply Rd.dr | with_reducible apply Rd.dr1)) rfl (by omega) β Hβ.out).mono ?_; rintro e w' ⟨rfl, rfl⟩
    go_wp2_with fail
    refine (LN.trimmed (xs := []) (by exact Rd.nil _) rfl (by decide) 0 rfl).mono ?_; rintro e w' ⟨rfl, rfl⟩
    go_wp2_with fail
    refine (LN.trimmed (xs := je) (by repeat (first | with_reducible exact Se | with_reducible apply Rd.al | with_reducible apply Rd.dr | with_reducible apply Rd.dr1)) rfl (Nat.le_trans (show je.length ≤ 100000 from (Nat.le_trans (NR.len_of He.out (fx.shl _)) (by first | decide | omega))) (by decide)) _ He.out).mono ?_; rintro e w' ⟨rfl, rfl⟩
    go_wp2_with fail
    refine (LN.trimmed (xs := jf) (by repeat (first | with_reducible exact Sf | with_reducible apply Rd.al | with_reducible apply Rd.dr | with_reducible apply Rd.dr1)) rfl (Nat.le_trans (show jf.length ≤ 100000 from (Nat.le_trans (NR.len_of Hf.out (fx.div _)) (by first | decide | omega))) (by decide)) _ Hf.out).mono ?_; rintro e w' ⟨rfl, rfl⟩
    go_wp2_with fail
    refine (LN.trimmed (xs := js) (by repeat (first | with_reducible exact Ss | with_reducible apply Rd.al | with_reducible apply Rd.dr | with_reducible apply Rd.dr1)) rfl (Nat.le_trans (show js.length ≤ 100000 from (Nat.le_trans (NR.len_of Hs.out (fx.add fy)) (by first | decide | omega))) (by decide)) _ Hs.out).mono ?_; rintro e w' ⟨rfl, rfl⟩
    go_wp2_with fail
    refine (LN.trimmed (xs := jt) (by repeat (first | with_reducible exact St | with_reducible apply Rd.al | with_reducible apply Rd.dr | with_reducible apply Rd.dr1)) rfl (Nat.le_trans (show jt.length ≤ 100000 from (Nat.le_trans (NR.len_of Ht.out (fx.mul fy)) (by first | decide | omega))) (by decide)) _ Ht.out).mono ?_; rintro e w' ⟨rfl, rfl⟩
    obtain ⟨jo, hjo⟩ : ∃ z : List Nat, z = L (V xs) := ⟨_, rfl⟩
    have No : Hid (V jo = V xs) := Lib.hid (by rw [hjo, V_L])
    have Ho := Lib.hid hjo; clear hjo
    go_wp2_with fail
    refine (NR.trim (xs := jc) (zs := jo) (by repeat (first | with_reducible exact Sc | with_reducible apply Rd.al | with_reducible apply Rd.dr | with_reducible apply Rd.dr1)) rfl (by omega)  (Ho.out.trans (congrArg L (by first | with_reducible rfl | simp only [Nc.out, LN.V_nil, LN.V_one])))).mono ?_; rintro e u17 ⟨po, qo, rfl, ho, hb⟩
    replace Sx : Rd u17 a0 cap0 (xs) := Rd.nx (by repeat (first | with_reducible exact Sx | with_reducible apply Rd.al | with_reducible apply Rd.dr | with_reducible apply Rd.dr1)) hb
    replace Sy : Rd u17 a1 cap1 (ys) := Rd.nx (by repeat (first | with_reducible exact Sy | with_reducible apply Rd.al | with_reducible apply Rd.dr | with_reducible apply Rd.dr1)) hb
    replace Sc : Rd u17 pc qc (jc) := Rd.nx (by repeat (first | with_reducible exact Sc | with_reducible apply Rd.al | with_reducible apply Rd.dr | with_reducible apply Rd.dr1)) hb
    replace Sd : Rd u17 pd qd (jd) := Rd.nx (by repeat (first | with_reducible exact Sd | with_reducible apply Rd.al | with_reducible apply Rd.dr | with_reducible apply Rd.dr1)) hb
    replace Se : Rd u17 pe qe (je) := Rd.nx (by repeat (first | with_reducible exact Se | with_reducible apply Rd.al | with_reducible apply Rd.dr | with_reducible apply Rd.dr1)) hb
    replace Sf : Rd u17 pf qf (jf) := Rd.nx (by repeat (first | with_reducible exact Sf | with_reducible apply Rd.al | with_reducible apply Rd.dr | with_reducible apply Rd.dr1)) hb
    replace Ss : Rd u17 ps qs (js) := Rd.nx (by repeat (first | with_reducible exact Ss | with_reducible apply Rd.al | with_reducible apply Rd.dr | with_reducible apply Rd.dr1)) hb
    replace St : Rd u17 pt qt (jt) := Rd.nx (by repeat (first | with_reducible exact St | with_reducible apply Rd.al | with_reducible apply Rd.dr | with_reducible apply Rd.dr1)) hb
    replace K : Kp w u17 := Kp.nx (by repeat (first | with_reducible exact K | with_reducible apply Kp.al | with_reducible apply Kp.dr | with_reducible apply Kp.dr1)) hb
    have So : Rd u17 po qo (jo) := ho.rd
    clear ho hb
    go_wp2_with fail
    refine (LN.trimmed (xs := jo) (by repeat (first | with_reducible exact So | with_reducible apply Rd.al | with_reducible apply Rd.dr | with_reducible apply Rd.dr1)) rfl (Nat.le_trans (show jo.length ≤ 100000 from (Nat.le_trans (NR.len_of Ho.out fx) (by first | decide | omega))) (by decide)) _ Ho.out).mono ?_; rintro e w' ⟨rfl, rfl⟩
    obtain ⟨jp, hjp⟩ : ∃ z : List Nat, z = L (n) := ⟨_, rfl⟩
    have Np : Hid (V jp = n) := Lib.hid (by rw [hjp, V_L])
    have Hp := Lib.hid hjp; clear hjp
    go_wp2_with fail
    refine (Hp.out ▸ NR.of n _ (by omega)).mono ?_; rintro e u18 ⟨pp, qp, rfl, ho, hb⟩
    replace Sx : Rd u18 a0 cap0 (xs) := Rd.nx (by repeat (first | with_reducible exact Sx | with_reducible apply Rd.al | with_reducible apply Rd.dr | with_reducible apply Rd.dr1)) hb
    replace Sy : Rd u18 a1 cap1 (ys) := Rd.nx (by repeat (first | with_reducible exact Sy | with_reducible apply Rd.al | with_reducible apply Rd.dr | with_reducible apply Rd.dr1)) hb
    replace Sc : Rd u18 pc qc (jc) := Rd.nx (by repeat (first | with_reducible exact Sc | with_reducible apply Rd.al | with_reducible apply Rd.dr | with_reducible apply Rd.dr1)) hb
    replace Sd : Rd u18 pd qd (jd) := Rd.nx (by repeat (first | with_reducible exact Sd | with_reducible apply Rd.al | with_reducible apply Rd.dr | with_reducible apply Rd.dr1)) hb
    replace Se : Rd u18 pe qe (je) := Rd.nx (by repeat (first | with_reducible exact Se | with_reducible apply Rd.al | with_reducible apply Rd.dr | with_reducible apply Rd.dr1)) hb
    replace Sf : Rd u18 pf qf (jf) := Rd.nx (by repeat (first | with_reducible exact Sf | with_reducible apply Rd.al | with_reducible apply Rd.dr | with_reducible apply Rd.dr1)) hb
    replace Ss : Rd u18 ps qs (js) := Rd.nx (by repeat (first | with_reducible exact Ss | with_reducible apply Rd.al | with_reducible apply Rd.dr | with_reducible apply Rd.dr1)) hb
    replace St : Rd u18 pt qt (jt) := Rd.nx (by repeat (first | with_reducible exact St | with_reducible apply Rd.al | with_reducible apply Rd.dr | with_reducible apply Rd.dr1)) hb
    replace So : Rd u18 po qo (jo) := Rd.nx (by repeat (first | with_reducible exact So | with_reducible apply Rd.al | with_reducible apply Rd.dr | with_reducible apply Rd.dr1)) hb
    replace K : Kp w u18 := Kp.nx (by repeat (first | with_reducible exact K | with_reducible apply Kp.al | with_reducible apply Kp.dr | with_reducible apply Kp.dr1)) hb
    have Sp : Rd u18 pp qp (jp) := ho.rd
    clear ho hb
    go_wp2_with fail
    refine (LN.trimmed (xs := jp) (by repeat (first | with_reducible exact Sp | with_reducible apply Rd.al | with_reducible apply Rd.dr | with_reducible apply Rd.dr1)) rfl (Nat.le_trans (show jp.length ≤ 100000 from (Nat.le_trans (NR.len_of Hp.out (show Fits n 1 by unfold Fits; omega)) (by first | decide | omega))) (by decide)) _ Hp.out).mono ?_; rintro e w' ⟨rfl, rfl⟩
    go_wp2_with fail
    go_ret
    exact ⟨rfl, Kp.below (by repeat (first | with_reducible exact K | with_reducible apply Kp.al | with_reducible apply Kp.dr | with_reducible apply Kp.dr1))⟩
  · have HLT := Lib.hid hlt; clear hlt
    obtain ⟨z, hz⟩ : ∃ z : Int, z = NT.cmpI (V xs) (V ys) := ⟨_, rfl⟩
    have Hz := Lib.hid hz; clear hz
    obtain ⟨l, hl⟩ : ∃ l : Nat, l = bitLen (V xs) := ⟨_, rfl⟩
    have Hl := Lib.hid hl; clear hl
    obtain ⟨β, hβ⟩ : ∃ t : Bool, t = (V xs == 0) := ⟨_, rfl⟩
    have Hβ := Lib.hid hβ; clear hβ
    go_enter Try.func8, Try.ntmps8
    go_wp2_with fail
    refine (LN.long2 (by simp) false HZ).mono ?_; rintro e w' ⟨rfl, rfl⟩
    go_wp2_with fail
    refine (LN.awake _).mono ?_; rintro e u1 ⟨rfl, hb⟩
    replace Sx : Rd u1 a0 cap0 (xs) := Rd.nx (by repeat (first | with_reducible exact Sx | with_reducible apply Rd.al | with_reducible apply Rd.dr | with_reducible apply Rd.dr1)) hb
    replace Sy : Rd u1 a1 cap1 (ys) := Rd.nx (by repeat (first | with_reducible exact Sy | with_reducible apply Rd.al | with_reducible apply Rd.dr | with_reducible apply Rd.dr1)) hb
    replace K : Kp w u1 := Kp.nx (by repeat (first | with_reducible exact K | with_reducible apply Kp.al | with_reducible apply Kp.dr | with_reducible apply Kp.dr1)) hb
    clear hb
    obtain ⟨jc, hjc⟩ : ∃ z : List Nat, z = xs ++ List.replicate (m % 4) 0 := ⟨_, rfl⟩
    have Nc : Hid (V jc = V xs) := Lib.hid (by rw [hjc, LN.V_app])
    have lc : jc.length ≤ 27 := by rw [hjc, List.length_append, List.length_replicate]; omega
    have Hc := Lib.hid hjc; clear hjc
    go_wp2_with fail
    refine (LN.tailz (xs := xs) (zs := jc) (m % 4) (by repeat (first | with_reducible exact Sx | with_reducible apply Rd.al | with_reducible apply Rd.dr | with_reducible apply Rd.dr1)) rfl (by omega) _ (by omega) (by omega) HC0.out Hc.out).mono ?_; rintro e u2 ⟨pc, qc, rfl, ho, hb⟩
    replace Sx : Rd u2 a0 cap0 (xs) := Rd.nx (by repeat (first | with_reducible exact Sx | with_reducible apply Rd.al | with_reducible apply Rd.dr | with_reducible apply Rd.dr1)) hb
    replace Sy : Rd u2 a1 cap1 (ys) := Rd.nx (by repeat (first | with_reducible exact Sy | with_reducible apply Rd.al | with_reducible apply Rd.dr | with_reducible apply Rd.dr1)) hb
    replace K : Kp w u2 := Kp.nx (by repeat (first | with_reducible exact K | with_reducible apply Kp.al | with_reducible apply Kp.dr | with_reducible apply Kp.dr1)) hb
    have Sc : Rd u2 pc qc (jc) := ho.rd
    clear ho hb
    obtain ⟨jd, hjd⟩ : ∃ z : List Nat, z = ys ++ List.replicate (m / 4 % 4) 0 := ⟨_, rfl⟩
    have Nd : Hid (V jd = V ys) := Lib.hid (by rw [hjd, LN.V_app])
    have ld : jd.length ≤ 27 := by rw [hjd, List.length_append, List.length_replicate]; omega
    have Hd := Lib.hid hjd; clear hjd
    go_wp2_with fail
    refine (LN.tailz (xs := ys) (zs := jd) (m / 4 % 4) (by repeat (first | with_reducible exact Sy | with_reducible apply Rd.al | with_reducible apply Rd.dr | with_reducible apply Rd.dr1)) rfl (by omega) _ (by omega) (by omega) HC1.out Hd.out).mono ?_; rintro e u3 ⟨pd, qd, rfl, ho, hb⟩
    replace Sx : Rd u3 a0 cap0 (xs) := Rd.nx (by repeat (first | with_reducible exact Sx | with_reducible apply Rd.al | with_reducible apply Rd.dr | with_reducible apply Rd.dr1)) hb
    replace Sy : Rd u3 a1 cap1 (ys) := Rd.nx (by repeat (first | with_reducible exact Sy | with_reducible apply Rd.al | with_reducible apply Rd.dr | with_reducible apply Rd.dr1)) hb
    replace Sc : Rd u3 pc qc (jc) := Rd.nx (by repeat (first | with_reducible exact Sc | with_reducible apply Rd.al | with_reducible apply Rd.dr | with_reducible apply Rd.dr1)) hb
    replace K : Kp w u3 := Kp.nx (by repeat (first | with_reducible exact K | with_reducible apply Kp.al | with_reducible apply Kp.dr | with_reducible apply Kp.dr1)) hb
    have Sd : Rd u3 pd qd (jd) := ho.rd
    clear ho hb
    obtain ⟨ja, hja⟩ : ∃ z : List Nat, z = L ((V xs) - (V ys)) := ⟨_, rfl⟩
    have Na : Hid (V ja = (V xs) - (V ys)) := Lib.hid (by rw [hja, V_L])
    have Ha := Lib.hid hja; clear hja
    go_wp2_with fail
    refine (NR.sub_ok (xs := xs) (ys := ys) (zs := ja) (by repeat (first | with_reducible exact Sx | with_reducible apply Rd.al | with_reducible apply Rd.dr | with_reducible apply Rd.dr1)) (by repeat (first | with_reducible exact Sy | with_reducible apply Rd.al | with_reducible apply Rd.dr | with_reducible apply Rd.dr1)) rfl rfl (by omega) (by omega) (Ha.out.trans (congrArg L (by first | with_reducible rfl | simp only [LN.V_nil, LN.V_one]))) (by have := HLT.out; omega)).mono ?_; rintro e u4 ⟨pa, qa, rfl, ho, hb⟩
    replace Sx : Rd u4 a0 cap0 (xs) := Rd.nx (by repeat (first | with_reducible exact Sx | with_reducible apply Rd.al | with_reducible apply Rd.dr | with_reducible apply Rd.dr1)) hb
    replace Sy : Rd u4 a1 cap1 (ys) := Rd.nx (by repeat (first | with_reducible exact Sy | with_reducible apply Rd.al | with_reducible apply Rd.dr | with_reducible apply Rd.dr1)) hb
    replace Sc : Rd u4 pc qc (jc) := Rd.nx (by repeat (first | with_reducible exact Sc | with_reducible apply Rd.al | with_reducible apply Rd.dr | with_reducible apply Rd.dr1)) hb
    replace Sd : Rd u4 pd qd (jd) := Rd.nx (by repeat (first | with_reducible exact Sd | with_reducible apply Rd.al | with_reducible apply Rd.dr | with_reducible apply Rd.dr1)) hb
    replace K : Kp w u4 := Kp.nx (by repeat (first | with_reducible exact K | with_reducible apply Kp.al | with_reducible apply Kp.dr | with_reducible apply Kp.dr1)) hb
    have Sa : Rd u4 pa qa (ja) := ho.rd
    clear ho hb
    obtain ⟨jb, hjb⟩ : ∃ z : List Nat, z = L ((V xs) - (V ys)) := ⟨_, rfl⟩
    have Nb : Hid (V jb = (V xs) - (V ys)) := Lib.hid (by rw [hjb, V_L])
    have Hb := Lib.hid hjb; clear hjb
    go_wp2_with fail
    refine (NR.sub_ok (xs := jc) (ys := jd) (zs := jb) (by repeat (first | with_reducible exact Sc | with_reducible apply Rd.al | with_reducible apply Rd.dr | with_reducible apply Rd.dr1)) (by repeat (first | with_reducible exact Sd | with_reducible apply Rd.al | with_reducible apply Rd.dr | with_reducible apply Rd.dr1)) rfl rfl (by omega) (by omega) (Hb.out.trans (congrArg L (by first | with_reducible rfl | simp only [Nc.out, Nd.out, LN.V_nil, LN.V_one]))) (by have := HLT.out; rw [Nc.out, Nd.out]; omega)).mono ?_; rintro e u5 ⟨pb, qb, rfl, ho, hb⟩
    replace Sx : Rd u5 a0 cap0 (xs) := Rd.nx (by repeat (first | with_reducible exact Sx | with_reducible apply Rd.al | with_reducible apply Rd.dr | with_reducible apply Rd.dr1)) hb
    replace Sy : Rd u5 a1 cap1 (ys) := Rd.nx (by repeat (first | with_reducible exact Sy | with_reducible apply Rd.al | with_reducible apply Rd.dr | with_reducible apply Rd.dr1)) hb
    replace Sc : Rd u5 pc qc (jc) := Rd.nx (by repeat (first | with_reducible exact Sc | with_reducible apply Rd.al | with_reducible apply Rd.dr | with_reducible apply Rd.dr1)) hb
    replace Sd : Rd u5 pd qd (jd) := Rd.nx (by repeat (first | with_reducible exact Sd | with_reducible apply Rd.al | with_reducible apply Rd.dr | with_reducible apply Rd.dr1)) hb
    replace Sa : Rd u5 pa qa (ja) := Rd.nx (by repeat (first | with_reducible exact Sa | with_reducible apply Rd.al | with_reducible apply Rd.dr | with_reducible apply Rd.dr1)) hb
    replace K : Kp w u5 := Kp.nx (by repeat (first | with_reducible exact K | with_reducible apply Kp.al | with_reducible apply Kp.dr | with_reducible apply Kp.dr1)) hb
    have Sb : Rd u5 pb qb (jb) := ho.rd
    clear ho hb
    obtain ⟨je, hje⟩ : ∃ z : List Nat, z = L ((V xs) * 2 ^ n) := ⟨_, rfl⟩
    have Ne : Hid (V je = (V xs) * 2 ^ n) := Lib.hid (by rw [hje, V_L])
    have He := Lib.hid hje; clear hje
    go_wp2_with fail
    refine (NR.shl_ok (xs := jc) (zs := je) (by repeat (first | with_reducible exact Sc | with_reducible apply Rd.al | with_reducible apply Rd.dr | with_reducible apply Rd.dr1)) rfl (by omega) n (by omega) (He.out.trans (congrArg L (by first | with_reducible rfl | simp only [Nc.out, LN.V_nil, LN.V_one])))).mono ?_; rintro e u6 ⟨pe, qe, rfl, ho, hb⟩
    replace Sx : Rd u6 a0 cap0 (xs) := Rd.nx (by repeat (first | with_reducible exact Sx | with_reducible apply Rd.al | with_reducible apply Rd.dr | with_reducible apply Rd.dr1)) hb
    replace Sy : Rd u6 a1 cap1 (ys) := Rd.nx (by repeat (first | with_reducible exact Sy | with_reducible apply Rd.al | with_reducible apply Rd.dr | with_reducible apply Rd.dr1)) hb
    replace Sc : Rd u6 pc qc (jc) := Rd.nx (by repeat (first | with_reducible exact Sc | with_reducible apply Rd.al | with_reducible apply Rd.dr | with_reducible apply Rd.dr1)) hb
    replace Sd : Rd u6 pd qd (jd) := Rd.nx (by repeat (first | with_reducible exact Sd | with_reducible apply Rd.al | with_reducible apply Rd.dr | with_reducible apply Rd.dr1)) hb
    replace Sa : Rd u6 pa qa (ja) := Rd.nx (by repeat (first | with_reducible exact Sa | with_reducible apply Rd.al | with_reducible apply Rd.dr | with_reducible apply Rd.dr1)) hb
    replace Sb : Rd u6 pb qb (jb) := Rd.nx (by repeat (first | with_reducible exact Sb | with_reducible apply Rd.al | with_reducible apply Rd.dr | with_reducible apply Rd.dr1)) hb
    replace K : Kp w u6 := Kp.nx (by repeat (first | with_reducible exact K | with_reducible apply Kp.al | with_reducible apply Kp.dr | with_reducible apply Kp.dr1)) hb
    have Se : Rd u6 pe qe (je) := ho.rd
    clear ho hb
    obtain ⟨jf, hjf⟩ : ∃ z : List Nat, z = L ((V xs) / 2 ^ n) := ⟨_, rfl⟩
    have Nf : Hid (V jf = (V xs) / 2 ^ n) := Lib.hid (by rw [hjf, V_L])
    have Hf := Lib.hid hjf; clear hjf
    go_wp2_with fail
    refine (NR.shr_ok (xs := jc) (zs := jf) (by repeat (first | with_reducible exact Sc | with_reducible apply Rd.al | with_reducible apply Rd.dr | with_reducible apply Rd.dr1)) rfl (by omega) n (by omega) (Hf.out.trans (congrArg L (by first | with_reducible rfl | simp only [Nc.out, LN.V_nil, LN.V_one])))).mono ?_; rintro e u7 ⟨pf, qf, rfl, ho, hb⟩
    replace Sx : Rd u7 a0 cap0 (xs) := Rd.nx (by repeat (first | with_reducible exact Sx | with_reducible apply Rd.al | with_reducible apply Rd.dr | with_reducible apply Rd.dr1)) hb
    replace Sy : Rd u7 a1 cap1 (ys) := Rd.nx (by repeat (first | with_reducible exact Sy | with_reducible apply Rd.al | with_reducible apply Rd.dr | with_reducible apply Rd.dr1)) hb
    replace Sc : Rd u7 pc qc (jc) := Rd.nx (by repeat (first | with_reducible exact Sc | with_reducible apply Rd.al | with_reducible apply Rd.dr | with_reducible apply Rd.dr1)) hb
    replace Sd : Rd u7 pd qd (jd) := Rd.nx (by repeat (first | with_reducible exact Sd | with_reducible apply Rd.al | with_reducible apply Rd.dr | with_reducible apply Rd.dr1)) hb
    replace Sa : Rd u7 pa qa (ja) := Rd.nx (by repeat (first | with_reducible exact Sa | with_reducible apply Rd.al | with_reducible apply Rd.dr | with_reducible apply Rd.dr1)) hb
    replace Sb : Rd u7 pb qb (jb) := Rd.nx (by repeat (first | with_reducible exact Sb | with_reducible apply Rd.al | with_reducible apply Rd.dr | with_reducible apply Rd.dr1)) hb
    replace Se : Rd u7 pe qe (je) := Rd.nx (by repeat (first | with_reducible exact Se | with_reducible apply Rd.al | with_reducible apply Rd.dr | with_reducible apply Rd.dr1)) hb
    replace K : Kp w u7 := Kp.nx (by repeat (first | with_reducible exact K | with_reducible apply Kp.al | with_reducible apply Kp.dr | with_reducible apply Kp.dr1)) hb
    have Sf : Rd u7 pf qf (jf) := ho.rd
    clear ho hb
    obtain ⟨jg, hjg⟩ : ∃ z : List Nat, z = L ((V xs) * 2 ^ n) := ⟨_, rfl⟩
    have Ng : Hid (V jg = (V xs) * 2 ^ n) := Lib.hid (by rw [hjg, V_L])
    have Hg := Lib.hid hjg; clear hjg
    go_wp2_with fail
    refine (NR.shl_ok (xs := xs) (zs := jg) (by repeat (first | with_reducible exact Sx | with_reducible apply Rd.al | with_reducible apply Rd.dr | with_reducible apply Rd.dr1)) rfl (by omega) n (by omega) (Hg.out.trans (congrArg L (by first | with_reducible rfl | simp only [LN.V_nil, LN.V_one])))).mono ?_; rintro e u8 ⟨pg, qg, rfl, ho, hb⟩
    replace Sx : Rd u8 a0 cap0 (xs) := Rd.nx (by repeat (first | with_reducible exact Sx | with_reducible apply Rd.al | with_reducible apply Rd.dr | with_reducible apply Rd.dr1)) hb
    replace Sy : Rd u8 a1 cap1 (ys) := Rd.nx (by repeat (first | with_reducible exact Sy | with_reducible apply Rd.al | with_reducible apply Rd.dr | with_reducible apply Rd.dr1)) hb
    replace Sc : Rd u8 pc qc (jc) := Rd.nx (by repeat (first | with_reducible exact Sc | with_reducible apply Rd.al | with_reducible apply Rd.dr | with_reducible apply Rd.dr1)) hb
    replace Sd : Rd u8 pd qd (jd) := Rd.nx (by repeat (first | with_reducible exact Sd | with_reducible apply Rd.al | with_reducible apply Rd.dr | with_reducible apply Rd.dr1)) hb
    replace Sa : Rd u8 pa qa (ja) := Rd.nx (by repeat (first | with_reducible exact Sa | with_reducible apply Rd.al | with_reducible apply Rd.dr | with_reducible apply Rd.dr1)) hb
    replace Sb : Rd u8 pb qb (jb) := Rd.nx (by repeat (first | with_reducible exact Sb | with_reducible apply Rd.al | with_reducible apply Rd.dr | with_reducible apply Rd.dr1)) hb
    replace Se : Rd u8 pe qe (je) := Rd.nx (by repeat (first | with_reducible exact Se | with_reducible apply Rd.al | with_reducible apply Rd.dr | with_reducible apply Rd.dr1)) hb
    replace Sf : Rd u8 pf qf (jf) := Rd.nx (by repeat (first | with_reducible exact Sf | with_reducible apply Rd.al | with_reducible apply Rd.dr | with_reducible apply Rd.dr1)) hb
    replace K : Kp w u8 := Kp.nx (by repeat (first | with_reducible exact K | with_reducible apply Kp.al | with_reducible apply Kp.dr | with_reducible apply Kp.dr1)) hb
    have Sg : Rd u8 pg qg (jg) := ho.rd
    clear ho hb
    obtain ⟨jh, hjh⟩ : ∃ z : List Nat, z = L ((V xs) / 2 ^ n) := ⟨_, rfl⟩
    have Nh : Hid (V jh = (V xs) / 2 ^ n) := Lib.hid (by rw [hjh, V_L])
    have Hh := Lib.hid hjh; clear hjh
    go_wp2_with fail
    refine (NR.shr_ok (xs := xs) (zs := jh) (by repeat (first | with_reducible exact Sx | with_reducible apply Rd.al | with_reducible apply Rd.dr | with_reducible apply Rd.dr1)) rfl (by omega) n (by omega) (Hh.out.trans (congrArg L (by first | with_reducible rfl | simp only [LN.V_nil, LN.V_one])))).mono ?_; rintro e u9 ⟨ph, qh, rfl, ho, hb⟩
    replace Sx : Rd u9 a0 cap0 (xs) := Rd.nx (by repeat (first | with_reducible exact Sx | with_reducible apply Rd.al | with_reducible apply Rd.dr | with_reducible apply Rd.dr1)) hb
    replace Sy : Rd u9 a1 cap1 (ys) := Rd.nx (by repeat (first | with_reducible exact Sy | with_reducible apply Rd.al | with_reducible apply Rd.dr | with_reducible apply Rd.dr1)) hb
    replace Sc : Rd u9 pc qc (jc) := Rd.nx (by repeat (first | with_reducible exact Sc | with_reducible apply Rd.al | with_reducible apply Rd.dr | with_reducible apply Rd.dr1)) hb
    replace Sd : Rd u9 pd qd (jd) := Rd.nx (by repeat (first | with_reducible exact Sd | with_reducible apply Rd.al | with_reducible apply Rd.dr | with_reducible apply Rd.dr1)) hb
    replace Sa : Rd u9 pa qa (ja) := Rd.nx (by repeat (first | with_reducible exact Sa | with_reducible apply Rd.al | with_reducible apply Rd.dr | with_reducible apply Rd.dr1)) hb
    replace Sb : Rd u9 pb qb (jb) := Rd.nx (by repeat (first | with_reducible exact Sb | with_reducible apply Rd.al | with_reducible apply Rd.dr | with_reducible apply Rd.dr1)) hb
    replace Se : Rd u9 pe qe (je) := Rd.nx (by repeat (first | with_reducible exact Se | with_reducible apply Rd.al | with_reducible apply Rd.dr | with_reducible apply Rd.dr1)) hb
    replace Sf : Rd u9 pf qf (jf) := Rd.nx (by repeat (first | with_reducible exact Sf | with_reducible apply Rd.al | with_reducible apply Rd.dr | with_reducible apply Rd.dr1)) hb
    replace Sg : Rd u9 pg qg (jg) := Rd.nx (by repeat (first | with_reducible exact Sg | with_reducible apply Rd.al | with_reducible apply Rd.dr | with_reducible apply Rd.dr1)) hb
    replace K : Kp w u9 := Kp.nx (by repeat (first | with_reducible exact K | with_reducible apply Kp.al | with_reducible apply Kp.dr | with_reducible apply Kp.dr1)) hb
    have Sh : Rd u9 ph qh (jh) := ho.rd
    clear ho hb
    obtain ⟨js, hjs⟩ : ∃ z : List Nat, z = L ((V xs) + (V ys)) := ⟨_, rfl⟩
    have Ns : Hid (V js = (V xs) + (V ys)) := Lib.hid (by rw [hjs, V_L])
    have Hs := Lib.hid hjs; clear hjs
    go_wp2_with fail
    refine (NR.add (xs := jc) (ys := jd) (zs := js) (by repeat (first | with_reducible exact Sc | with_reducible apply Rd.al | with_reducible apply Rd.dr | with_reducible apply Rd.dr1)) (by repeat (first | with_reducible exact Sd | with_reducible apply Rd.al | with_reducible apply Rd.dr | with_reducible apply Rd.dr1)) rfl rfl (by omega) (by omega)  (Hs.out.trans (congrArg L (by first | with_reducible rfl | simp only [Nc.out, Nd.out, LN.V_nil, LN.V_one])))).mono ?_; rintro e u10 ⟨ps, qs, rfl, ho, hb⟩
    replace Sx : Rd u10 a0 cap0 (xs) := Rd.nx (by repeat (first | with_reducible exact Sx | with_reducible apply Rd.al | with_reducible apply Rd.dr | with_reducible apply Rd.dr1)) hb
    replace Sy : Rd u10 a1 cap1 (ys) := Rd.nx (by repeat (first | with_reducible exact Sy | with_reducible apply Rd.al | with_reducible apply Rd.dr | with_reducible apply Rd.dr1)) hb
    replace Sc : Rd u10 pc qc (jc) := Rd.nx (by repeat (first | with_reducible exact Sc | with_reducible apply Rd.al | with_reducible apply Rd.dr | with_reducible apply Rd.dr1)) hb
    replace Sd : Rd u10 pd qd (jd) := Rd.nx (by repeat (first | with_reducible exact Sd | with_reducible apply Rd.al | with_reducible apply Rd.dr | with_reducible apply Rd.dr1)) hb
    replace Sa : Rd u10 pa qa (ja) := Rd.nx (by repeat (first | with_reducible exact Sa | with_reducible apply Rd.al | with_reducible apply Rd.dr | with_reducible apply Rd.dr1)) hb
    replace Sb : Rd u10 pb qb (jb) := Rd.nx (by repeat (first | with_reducible exact Sb | with_reducible apply Rd.al | with_reducible apply Rd.dr | with_reducible apply Rd.dr1)) hb
    replace Se : Rd u10 pe qe (je) := Rd.nx (by repeat (first | with_reducible exact Se | with_reducible apply Rd.al | with_reducible apply Rd.dr | with_reducible apply Rd.dr1)) hb
    replace Sf : Rd u10 pf qf (jf) := Rd.nx (by repeat (first | with_reducible exact Sf | with_reducible apply Rd.al | with_reducible apply Rd.dr | with_reducible apply Rd.dr1)) hb
    replace Sg : Rd u10 pg qg (jg) := Rd.nx (by repeat (first | with_reducible exact Sg | with_reducible apply Rd.al | with_reducible apply Rd.dr | with_reducible apply Rd.dr1)) hb
    replace Sh : Rd u10 ph qh (jh) := Rd.nx (by repeat (first | with_reducible exact Sh | with_reducible apply Rd.al | with_reducible apply Rd.dr | with_reducible apply Rd.dr1)) hb
    replace K : Kp w u10 := Kp.nx (by repeat (first | with_reducible exact K | with_reducible apply Kp.al | with_reducible apply Kp.dr | with_reducible apply Kp.dr1)) hb
    have Ss : Rd u10 ps qs (js) := ho.rd
    clear ho hb
    obtain ⟨jt, hjt⟩ : ∃ z : List Nat, z = L ((V xs) * (V ys)) := ⟨_, rfl⟩
    have Nt : Hid (V jt = (V xs) * (V ys)) := Lib.hid (by rw [hjt, V_L])
    have Ht := Lib.hid hjt; clear hjt
    go_wp2_with fail
    refine (NR.mul (xs := jc) (ys := jd) (zs := jt) (by repeat (first | with_reducible exact Sc | with_reducible apply Rd.al | with_reducible apply Rd.dr | with_reducible apply Rd.dr1)) (by repeat (first | with_reducible exact Sd | with_reducible apply Rd.al | with_reducible apply Rd.dr | with_reducible apply Rd.dr1)) rfl rfl (by omega) (by omega)  (Ht.out.trans (congrArg L (by first | with_reducible rfl | simp only [Nc.out, Nd.out, LN.V_nil, LN.V_one])))).mono ?_; rintro e u11 ⟨pt, qt, rfl, ho, hb⟩
    replace Sx : Rd u11 a0 cap0 (xs) := Rd.nx (by repeat (first | with_reducible exact Sx | with_reducible apply Rd.al | with_reducible apply Rd.dr | with_reducible apply Rd.dr1)) hb
    replace Sy : Rd u11 a1 cap1 (ys) := Rd.nx (by repeat (first | with_reducible exact Sy | with_reducible apply Rd.al | with_reducible apply Rd.dr | with_reducible apply Rd.dr1)) hb
    replace Sc : Rd u11 pc qc (jc) := Rd.nx (by repeat (first | with_reducible exact Sc | with_reducible apply Rd.al | with_reducible apply Rd.dr | with_reducible apply Rd.dr1)) hb
    replace Sd : Rd u11 pd qd (jd) := Rd.nx (by repeat (first | with_reducible exact Sd | with_reducible apply Rd.al | with_reducible apply Rd.dr | with_reducible apply Rd.dr1)) hb
    replace Sa : Rd u11 pa qa (ja) := Rd.nx (by repeat (first | with_reducible exact Sa | with_reducible apply Rd.al | with_reducible apply Rd.dr | with_reducible apply Rd.dr1)) hb
    replace Sb : Rd u11 pb qb (jb) := Rd.nx (by repeat (first | with_reducible exact Sb | with_reducible apply Rd.al | with_reducible apply Rd.dr | with_reducible apply Rd.dr1)) hb
    replace Se : Rd u11 pe qe (je) := Rd.nx (by repeat (first | with_reducible exact Se | with_reducible apply Rd.al | with_reducible apply Rd.dr | with_reducible apply Rd.dr1)) hb
    replace Sf : Rd u11 pf qf (jf) := Rd.nx (by repeat (first | with_reducible exact Sf | with_reducible apply Rd.al | with_reducible apply Rd.dr | with_reducible apply Rd.dr1)) hb
    replace Sg : Rd u11 pg qg (jg) := Rd.nx (by repeat (first | with_reducible exact Sg | with_reducible apply Rd.al | with_reducible apply Rd.dr | with_reducible apply Rd.dr1)) hb
    replace Sh : Rd u11 ph qh (jh) := Rd.nx (by repeat (first | with_reducible exact Sh | with_reducible apply Rd.al | with_reducible apply Rd.dr | with_reducible apply Rd.dr1)) hb
    replace Ss : Rd u11 ps qs (js) := Rd.nx (by repeat (first | with_reducible exact Ss | with_reducible apply Rd.al | with_reducible apply Rd.dr | with_reducible apply Rd.dr1)) hb
    replace K : Kp w u11 := Kp.nx (by repeat (first | with_reducible exact K | with_reducible apply Kp.al | with_reducible apply Kp.dr | with_reducible apply Kp.dr1)) hb
    have St : Rd u11 pt qt (jt) := ho.rd
    clear ho hb
    go_wp2_with fail
    refine (NR.same_yes (xs := ja) (ys := jb) (by repeat (first | with_reducible exact Sa | with_reducible apply Rd.al | with_reducible apply Rd.dr | with_reducible apply Rd.dr1)) (by repeat (first | with_reducible exact Sb | with_reducible apply Rd.al | with_reducible apply Rd.dr | with_reducible apply Rd.dr1)) rfl rfl (Nat.le_trans (NR.len_of Ha.out (fx.sub _)) (by first | decide | omega)) (Ha.out.trans ((congrArg L rfl).trans Hb.out.symm))).mono ?_; rintro e u12 ⟨rfl, hb⟩
    replace Sx : Rd u12 a0 cap0 (xs) := Rd.nx (by repeat (first | with_reducible exact Sx | with_reducible apply Rd.al | with_reducible apply Rd.dr | with_reducible apply Rd.dr1)) hb
    replace Sy : Rd u12 a1 cap1 (ys) := Rd.nx (by repeat (first | with_reducible exact Sy | with_reducible apply Rd.al | with_reducible apply Rd.dr | with_reducible apply Rd.dr1)) hb
    replace Sc : Rd u12 pc qc (jc) := Rd.nx (by repeat (first | with_reducible exact Sc | with_reducible apply Rd.al | with_reducible apply Rd.dr | with_reducible apply Rd.dr1)) hb
    replace Sd : Rd u12 pd qd (jd) := Rd.nx (by repeat (first | with_reducible exact Sd | with_reducible apply Rd.al | with_reducible apply Rd.dr | with_reducible apply Rd.dr1)) hb
    replace Sa : Rd u12 pa qa (ja) := Rd.nx (by repeat (first | with_reducible exact Sa | with_reducible apply Rd.al | with_reducible apply Rd.dr | with_reducible apply Rd.dr1)) hb
    replace Sb : Rd u12 pb qb (jb) := Rd.nx (by repeat (first | with_reducible exact Sb | with_reducible apply Rd.al | with_reducible apply Rd.dr | with_reducible apply Rd.dr1)) hb
    replace Se : Rd u12 pe qe (je) := Rd.nx (by repeat (first | with_reducible exact Se | with_reducible apply Rd.al | with_reducible apply Rd.dr | with_reducible apply Rd.dr1)) hb
    replace Sf : Rd u12 pf qf (jf) := Rd.nx (by repeat (first | with_reducible exact Sf | with_reducible apply Rd.al | with_reducible apply Rd.dr | with_reducible apply Rd.dr1)) hb
    replace Sg : Rd u12 pg qg (jg) := Rd.nx (by repeat (first | with_reducible exact Sg | with_reducible apply Rd.al | with_reducible apply Rd.dr | with_reducible apply Rd.dr1)) hb
    replace Sh : Rd u12 ph qh (jh) := Rd.nx (by repeat (first | with_reducible exact Sh | with_reducible apply Rd.al | with_reducible apply Rd.dr | with_reducible apply Rd.dr1)) hb
    replace Ss : Rd u12 ps qs (js) := Rd.nx (by repeat (first | with_reducible exact Ss | with_reducible apply Rd.al | with_reducible apply Rd.dr | with_reducible apply Rd.dr1)) hb
    replace St : Rd u12 pt qt (jt) := Rd.nx (by repeat (first | with_reducible exact St | with_reducible apply Rd.al | with_reducible apply Rd.dr | with_reducible apply Rd.dr1)) hb
    replace K : Kp w u12 := Kp.nx (by repeat (first | with_reducible exact K | with_reducible apply Kp.al | with_reducible apply Kp.dr | with_reducible apply Kp.dr1)) hb
    clear hb
    clear Sb
    go_wp2_with fail
    refine (NR.same_yes (xs := je) (ys := jg) (by repeat (first | with_reducible exact Se | with_reducible apply Rd.al | with_reducible apply Rd.dr | with_reducible apply Rd.dr1)) (by repeat (first | with_reducible exact Sg | with_reducible apply Rd.al | with_reducible apply Rd.dr | with_reducible apply Rd.dr1)) rfl rfl (Nat.le_trans (NR.len_of He.out (fx.shl _)) (by first | decide | omega)) (He.out.trans ((congrArg L rfl).trans Hg.out.symm))).mono ?_; rintro e u13 ⟨rfl, hb⟩
    replace Sx : Rd u13 a0 cap0 (xs) := Rd.nx (by repeat (first | with_reducible exact Sx | with_reducible apply Rd.al | with_reducible apply Rd.dr | with_reducible apply Rd.dr1)) hb
    replace Sy : Rd u13 a1 cap1 (ys) := Rd.nx (by repeat (first | with_reducible exact Sy | with_reducible apply Rd.al | with_reducible apply Rd.dr | with_reducible apply Rd.dr1)) hb
    replace Sc : Rd u13 pc qc (jc) := Rd.nx (by repeat (first | with_reducible exact Sc | with_reducible apply Rd.al | with_reducible apply Rd.dr | with_reducible apply Rd.dr1)) hb
    replace Sd : Rd u13 pd qd (jd) := Rd.nx (by repeat (first | with_reducible exact Sd | with_reducible apply Rd.al | with_reducible apply Rd.dr | with_reducible apply Rd.dr1)) hb
    replace Sa : Rd u13 pa qa (ja) := Rd.nx (by repeat (first | with_reducible exact Sa | with_reducible apply Rd.al | with_reducible apply Rd.dr | with_reducible apply Rd.dr1)) hb
    replace Se : Rd u13 pe qe (je) := Rd.nx (by repeat (first | with_reducible exact Se | with_reducible apply Rd.al | with_reducible apply Rd.dr | with_reducible apply Rd.dr1)) hb
    replace Sf : Rd u13 pf qf (jf) := Rd.nx (by repeat (first | with_reducible exact Sf | with_reducible apply Rd.al | with_reducible apply Rd.dr | with_reducible apply Rd.dr1)) hb
    replace Sg : Rd u13 pg qg (jg) := Rd.nx (by repeat (first | with_reducible exact Sg | with_reducible apply Rd.al | with_reducible apply Rd.dr | with_reducible apply Rd.dr1)) hb
    replace Sh : Rd u13 ph qh (jh) := Rd.nx (by repeat (first | with_reducible exact Sh | with_reducible apply Rd.al | with_reducible apply Rd.dr | with_reducible apply Rd.dr1)) hb
    replace Ss : Rd u13 ps qs (js) := Rd.nx (by repeat (first | with_reducible exact Ss | with_reducible apply Rd.al | with_reducible apply Rd.dr | with_reducible apply Rd.dr1)) hb
    replace St : Rd u13 pt qt (jt) := Rd.nx (by repeat (first | with_reducible exact St | with_reducible apply Rd.al | with_reducible apply Rd.dr | with_reducible apply Rd.dr1)) hb
    replace K : Kp w u13 := Kp.nx (by repeat (first | with_reducible exact K | with_reducible apply Kp.al | with_reducible apply Kp.dr | with_reducible apply Kp.dr1)) hb
    clear hb
    go_wp2_with fail
    refine (NR.same_yes (xs := jf) (ys := jh) (by repeat (first | with_reducible exact Sf | with_reducible apply Rd.al | with_reducible apply Rd.dr | with_reducible apply Rd.dr1)) (by repeat (first | with_reducible exact Sh | with_reducible apply Rd.al | with_reducible apply Rd.dr | with_reducible apply Rd.dr1)) rfl rfl (Nat.le_trans (NR.len_of Hf.out (fx.div _)) (by first | decide | omega)) (Hf.out.trans ((congrArg L rfl).trans Hh.out.symm))).mono ?_; rintro e u14 ⟨rfl, hb⟩
    replace Sx : Rd u14 a0 cap0 (xs) := Rd.nx (by repeat (first | with_reducible exact Sx | with_reducible apply Rd.al | with_reducible apply Rd.dr | with_reducible apply Rd.dr1)) hb
    replace Sy : Rd u14 a1 cap1 (ys) := Rd.nx (by repeat (first | with_reducible exact Sy | with_reducible apply Rd.al | with_reducible apply Rd.dr | with_reducible apply Rd.dr1)) hb
    replace Sc : Rd u14 pc qc (jc) := Rd.nx (by repeat (first | with_reducible exact Sc | with_reducible apply Rd.al | with_reducible apply Rd.dr | with_reducible apply Rd.dr1)) hb
    replace Sd : Rd u14 pd qd (jd) := Rd.nx (by repeat (first | with_reducible exact Sd | with_reducible apply Rd.al | with_reducible apply Rd.dr | with_reducible apply Rd.dr1)) hb
    replace Sa : Rd u14 pa qa (ja) := Rd.nx (by repeat (first | with_reducible exact Sa | with_reducible apply Rd.al | with_reducible apply Rd.dr | with_reducible apply Rd.dr1)) hb
    replace Se : Rd u14 pe qe (je) := Rd.nx (by repeat (first | with_reducible exact Se | with_reducible apply Rd.al | with_reducible apply Rd.dr | with_reducible apply Rd.dr1)) hb
    replace Sf : Rd u14 pf qf (jf) := Rd.nx (by repeat (first | with_reducible exact Sf | with_reducible apply Rd.al | with_reducible apply Rd.dr | with_reducible apply Rd.dr1)) hb
    replace Sg : Rd u14 pg qg (jg) := Rd.nx (by repeat (first | with_reducible exact Sg | with_reducible apply Rd.al | with_reducible apply Rd.dr | with_reducible apply Rd.dr1)) hb
    replace Sh : Rd u14 ph qh (jh) := Rd.nx (by repeat (first | with_reducible exact Sh | with_reducible apply Rd.al | with_reducible apply Rd.dr | with_reducible apply Rd.dr1)) hb
    replace Ss : Rd u14 ps qs (js) := Rd.nx (by repeat (first | with_reducible exact Ss | with_reducible apply Rd.al | with_reducible apply Rd.dr | with_reducible apply Rd.dr1)) hb
    replace St : Rd u14 pt qt (jt) := Rd.nx (by repeat (first | with_reducible exact St | with_reducible apply Rd.al | with_reducible apply Rd.dr | with_reducible apply Rd.dr1)) hb
    replace K : Kp w u14 := Kp.nx (by repeat (first | with_reducible exact K | with_reducible apply Kp.al | with_reducible apply Kp.dr | with_reducible apply Kp.dr1)) hb
    clear hb
    clear Sg
    clear Sh
    obtain ⟨ji, hji⟩ : ∃ z : List Nat, z = L ((V xs) + (V ys)) := ⟨_, rfl⟩
    have Ni : Hid (V ji = (V xs) + (V ys)) := Lib.hid (by rw [hji, V_L])
    have Hi := Lib.hid hji; clear hji
    go_wp2_with fail
    refine (NR.add (xs := xs) (ys := ys) (zs := ji) (by repeat (first | with_reducible exact Sx | with_reducible apply Rd.al | with_reducible apply Rd.dr | with_reducible apply Rd.dr1)) (by repeat (first | with_reducible exact Sy | with_reducible apply Rd.al | with_reducible apply Rd.dr | with_reducible apply Rd.dr1)) rfl rfl (by omega) (by omega)  (Hi.out.trans (congrArg L (by first | with_reducible rfl | simp only [LN.V_nil, LN.V_one])))).mono ?_; rintro e u15 ⟨pi, qi, rfl, ho, hb⟩
    replace Sx : Rd u15 a0 cap0 (xs) := Rd.nx (by repeat (first | with_reducible exact Sx | with_reducible apply Rd.al | with_reducible apply Rd.dr | with_reducible apply Rd.dr1)) hb
    replace Sy : Rd u15 a1 cap1 (ys) := Rd.nx (by repeat (first | with_reducible exact Sy | with_reducible apply Rd.al | with_reducible apply Rd.dr | with_reducible apply Rd.dr1)) hb
    replace Sc : Rd u15 pc qc (jc) := Rd.nx (by repeat (first | with_reducible exact Sc | with_reducible apply Rd.al | with_reducible apply Rd.dr | with_reducible apply Rd.dr1)) hb
    replace Sd : Rd u15 pd qd (jd) := Rd.nx (by repeat (first | with_reducible exact Sd | with_reducible apply Rd.al | with_reducible apply Rd.dr | with_reducible apply Rd.dr1)) hb
    replace Sa : Rd u15 pa qa (ja) := Rd.nx (by repeat (first | with_reducible exact Sa | with_reducible apply Rd.al | with_reducible apply Rd.dr | with_reducible apply Rd.dr1)) hb
    replace Se : Rd u15 pe qe (je) := Rd.nx (by repeat (first | with_reducible exact Se | with_reducible apply Rd.al | with_reducible apply Rd.dr | with_reducible apply Rd.dr1)) hb
    replace Sf : Rd u15 pf qf (jf) := Rd.nx (by repeat (first | with_reducible exact Sf | with_reducible apply Rd.al | with_reducible apply Rd.dr | with_reducible apply Rd.dr1)) hb
    replace Ss : Rd u15 ps qs (js) := Rd.nx (by repeat (first | with_reducible exact Ss | with_reducible apply Rd.al | with_reducible apply Rd.dr | with_reducible apply Rd.dr1)) hb
    replace St : Rd u15 pt qt (jt) := Rd.nx (by repeat (first | with_reducible exact St | with_reducible apply Rd.al | with_reducible apply Rd.dr | with_reducible apply Rd.dr1)) hb
    replace K : Kp w u15 := Kp.nx (by repeat (first | with_reducible exact K | with_reducible apply Kp.al | with_reducible apply Kp.dr | with_reducible apply Kp.dr1)) hb
    have Si : Rd u15 pi qi (ji) := ho.rd
    clear ho hb
    go_wp2_with fail
    refine (NR.same_yes (xs := js) (ys := ji) (by repeat (first | with_reducible exact Ss | with_reducible apply Rd.al | with_reducible apply Rd.dr | with_reducible apply Rd.dr1)) (by repeat (first | with_reducible exact Si | with_reducible apply Rd.al | with_reducible apply Rd.dr | with_reducible apply Rd.dr1)) rfl rfl (Nat.le_trans (NR.len_of Hs.out (fx.add fy)) (by first | decide | omega)) (Hs.out.trans ((congrArg L rfl).trans Hi.out.symm))).mono ?_; rintro e u16 ⟨rfl, hb⟩
    replace Sx : Rd u16 a0 cap0 (xs) := Rd.nx (by repeat (first | with_reducible exact Sx | with_reducible apply Rd.al | with_reducible apply Rd.dr | with_reducible apply Rd.dr1)) hb
    replace Sy : Rd u16 a1 cap1 (ys) := Rd.nx (by repeat (first | with_reducible exact Sy | with_reducible apply Rd.al | with_reducible apply Rd.dr | with_reducible apply Rd.dr1)) hb
    replace Sc : Rd u16 pc qc (jc) := Rd.nx (by repeat (first | with_reducible exact Sc | with_reducible apply Rd.al | with_reducible apply Rd.dr | with_reducible apply Rd.dr1)) hb
    replace Sd : Rd u16 pd qd (jd) := Rd.nx (by repeat (first | with_reducible exact Sd | with_reducible apply Rd.al | with_reducible apply Rd.dr | with_reducible apply Rd.dr1)) hb
    replace Sa : Rd u16 pa qa (ja) := Rd.nx (by repeat (first | with_reducible exact Sa | with_reducible apply Rd.al | with_reducible apply Rd.dr | with_reducible apply Rd.dr1)) hb
    replace Se : Rd u16 pe qe (je) := Rd.nx (by repeat (first | with_reducible exact Se | with_reducible apply Rd.al | with_reducible apply Rd.dr | with_reducible apply Rd.dr1)) hb
    replace Sf : Rd u16 pf qf (jf) := Rd.nx (by repeat (first | with_reducible exact Sf | with_reducible apply Rd.al | with_reducible apply Rd.dr | with_reducible apply Rd.dr1)) hb
    replace Ss : Rd u16 ps qs (js) := Rd.nx (by repeat (first | with_reducible exact Ss | with_reducible apply Rd.al | with_reducible apply Rd.dr | with_reducible apply Rd.dr1)) hb
    replace St : Rd u16 pt qt (jt) := Rd.nx (by repeat (first | with_reducible exact St | with_reducible apply Rd.al | with_reducible apply Rd.dr | with_reducible apply Rd.dr1)) hb
    replace Si : Rd u16 pi qi (ji) := Rd.nx (by repeat (first | with_reducible exact Si | with_reducible apply Rd.al | with_reducible apply Rd.dr | with_reducible apply Rd.dr1)) hb
    replace K : Kp w u16 := Kp.nx (by repeat (first | with_reducible exact K | with_reducible apply Kp.al | with_reducible apply Kp.dr | with_reducible apply Kp.dr1)) hb
    clear hb
    clear Si
    obtain ⟨jk, hjk⟩ : ∃ z : List Nat, z = L ((V xs) * (V ys)) := ⟨_, rfl⟩
    have Nk : Hid (V jk = (V xs) * (V ys)) := Lib.hid (by rw [hjk, V_L])
    have Hk := Lib.hid hjk; clear hjk
    go_wp2_with fail
    refine (NR.mul (xs := xs) (ys := ys) (zs := jk) (by repeat (first | with_reducible exact Sx | with_reducible apply Rd.al | with_reducible apply Rd.dr | with_reducible apply Rd.dr1)) (by repeat (first | with_reducible exact Sy | with_reducible apply Rd.al | with_reducible apply Rd.dr | with_reducible apply Rd.dr1)) rfl rfl (by omega) (by omega)  (Hk.out.trans (congrArg L (by first | with_reducible rfl | simp only [LN.V_nil, LN.V_one])))).mono ?_; rintro e u17 ⟨pk, qk, rfl, ho, hb⟩
    replace Sx : Rd u17 a0 cap0 (xs) := Rd.nx (by repeat (first | with_reducible exact Sx | with_reducible apply Rd.al | with_reducible apply Rd.dr | with_reducible apply Rd.dr1)) hb
    replace Sy : Rd u17 a1 cap1 (ys) := Rd.nx (by repeat (first | with_reducible exact Sy | with_reducible apply Rd.al | with_reducible apply Rd.dr | with_reducible apply Rd.dr1)) hb
    replace Sc : Rd u17 pc qc (jc) := Rd.nx (by repeat (first | with_reducible exact Sc | with_reducible apply Rd.al | with_reducible apply Rd.dr | with_reducible apply Rd.dr1)) hb
    replace Sd : Rd u17 pd qd (jd) := Rd.nx (by repeat (first | with_reducible exact Sd | with_reducible apply Rd.al | with_reducible apply Rd.dr | with_reducible apply Rd.dr1)) hb
    replace Sa : Rd u17 pa qa (ja) := Rd.nx (by repeat (first | with_reducible exact Sa | with_reducible apply Rd.al | with_reducible apply Rd.dr | with_reducible apply Rd.dr1)) hb
    replace Se : Rd u17 pe qe (je) := Rd.nx (by repeat (first | with_reducible exact Se | with_reducible apply Rd.al | with_reducible apply Rd.dr | with_reducible apply Rd.dr1)) hb
    replace Sf : Rd u17 pf qf (jf) := Rd.nx (by repeat (first | with_reducible exact Sf | with_reducible apply Rd.al | with_reducible apply Rd.dr | with_reducible apply Rd.dr1)) hb
    replace Ss : Rd u17 ps qs (js) := Rd.nx (by repeat (first | with_reducible exact Ss | with_reducible apply Rd.al | with_reducible apply Rd.dr | with_reducible apply Rd.dr1)) hb
    replace St : Rd u17 pt qt (jt) := Rd.nx (by repeat (first | with_reducible exact St | with_reducible apply Rd.al | with_reducible apply Rd.dr | with_reducible apply Rd.dr1)) hb
    replace K : Kp w u17 := Kp.nx (by repeat (first | with_reducible exact K | with_reducible apply Kp.al | with_reducible apply Kp.dr | with_reducible apply Kp.dr1)) hb
    have Sk : Rd u17 pk qk (jk) := ho.rd
    clear ho hb
    go_wp2_with fail
    refine (NR.same_yes (xs := jt) (ys := jk) (by repeat (first | with_reducible exact St | with_reducible apply Rd.al | with_reducible apply Rd.dr | with_reducible apply Rd.dr1)) (by repeat (first | with_reducible exact Sk | with_reducible apply Rd.al | with_reducible apply Rd.dr | with_reducible apply Rd.dr1)) rfl rfl (Nat.le_trans (NR.len_of Ht.out (fx.mul fy)) (by first | decide | omega)) (Ht.out.trans ((congrArg L rfl).trans Hk.out.symm))).mono ?_; rintro e u18 ⟨rfl, hb⟩
    replace Sx : Rd u18 a0 cap0 (xs) := Rd.nx (by repeat (first | with_reducible exact Sx | with_reducible apply Rd.al | with_reducible apply Rd.dr | with_reducible apply Rd.dr1)) hb
    replace Sy : Rd u18 a1 cap1 (ys) := Rd.nx (by repeat (first | with_reducible exact Sy | with_reducible apply Rd.al | with_reducible apply Rd.dr | with_reducible apply Rd.dr1)) hb
    replace Sc : Rd u18 pc qc (jc) := Rd.nx (by repeat (first | with_reducible exact Sc | with_reducible apply Rd.al | with_reducible apply Rd.dr | with_reducible apply Rd.dr1)) hb
    replace Sd : Rd u18 pd qd (jd) := Rd.nx (by repeat (first | with_reducible exact Sd | with_reducible apply Rd.al | with_reducible apply Rd.dr | with_reducible apply Rd.dr1)) hb
    replace Sa : Rd u18 pa qa (ja) := Rd.nx (by repeat (first | with_reducible exact Sa | with_reducible apply Rd.al | with_reducible apply Rd.dr | with_reducible apply Rd.dr1)) hb
    replace Se : Rd u18 pe qe (je) := Rd.nx (by repeat (first | with_reducible exact Se | with_reducible apply Rd.al | with_reducible apply Rd.dr | with_reducible apply Rd.dr1)) hb
    replace Sf : Rd u18 pf qf (jf) := Rd.nx (by repeat (first | with_reducible exact Sf | with_reducible apply Rd.al | with_reducible apply Rd.dr | with_reducible apply Rd.dr1)) hb
    replace Ss : Rd u18 ps qs (js) := Rd.nx (by repeat (first | with_reducible exact Ss | with_reducible apply Rd.al | with_reducible apply Rd.dr | with_reducible apply Rd.dr1)) hb
    replace St : Rd u18 pt qt (jt) := Rd.nx (by repeat (first | with_reducible exact St | with_reducible apply Rd.al | with_reducible apply Rd.dr | with_reducible apply Rd.dr1)) hb
    replace Sk : Rd u18 pk qk (jk) := Rd.nx (by repeat (first | with_reducible exact Sk | with_reducible apply Rd.al | with_reducible apply Rd.dr | with_reducible apply Rd.dr1)) hb
    replace K : Kp w u18 := Kp.nx (by repeat (first | with_reducible exact K | with_reducible apply Kp.al | with_reducible apply Kp.dr | with_reducible apply Kp.dr1)) hb
    clear hb
    clear Sk
    go_wp2_with fail
    refine (NR.cmp (xs := jc) (ys := jd) (by repeat (first | with_reducible exact Sc | with_reducible apply Rd.al | with_reducible apply Rd.dr | with_reducible apply Rd.dr1)) (by repeat (first | with_reducible exact Sd | with_reducible apply Rd.al | with_reducible apply Rd.dr | with_reducible apply Rd.dr1)) rfl rfl (by omega) (by omega) (z) (by rw [Nc.out, Nd.out]; exact Hz.out)).mono ?_; rintro e w' ⟨rfl, rfl⟩
    go_wp2_with fail
    refine (NR.cmp (xs := xs) (ys := ys) (by repeat (first | with_reducible exact Sx | with_reducible apply Rd.al | with_reducible apply Rd.dr | with_reducible apply Rd.dr1)) (by repeat (first | with_reducible exact Sy | with_reducible apply Rd.al | with_reducible apply Rd.dr | with_reducible apply Rd.dr1)) rfl rfl (by omega) (by omega) (z) Hz.out).mono ?_; rintro e w' ⟨rfl, rfl⟩
    go_wp2_with fail
    refine (NR.cmp (xs := xs) (ys := jc) (by repeat (first | with_reducible exact Sx | with_reducible apply Rd.al | with_reducible apply Rd.dr | with_reducible apply Rd.dr1)) (by repeat (first | with_reducible exact Sc | with_reducible apply Rd.al | with_reducible apply Rd.dr | with_reducible apply Rd.dr1)) rfl rfl (by omega) (by omega) (0) (by rw [Nc.out]; unfold NT.cmpI; simp)).mono ?_; rintro e w' ⟨rfl, rfl⟩
    go_wp2_with fail
    refine (NR.len (xs := jc) (by repeat (first | with_reducible exact Sc | with_reducible apply Rd.al | with_reducible apply Rd.dr | with_reducible apply Rd.dr1)) rfl (by omega) l (by rw [Nc.out]; exact Hl.out)).mono ?_; rintro e w' ⟨rfl, rfl⟩
    go_wp2_with fail
    refine (NR.len (xs := xs) (by repeat (first | with_reducible exact Sx | with_reducible apply Rd.al | with_reducible apply Rd.dr | with_reducible apply Rd.dr1)) rfl (by omega) l Hl.out).mono ?_; rintro e w' ⟨rfl, rfl⟩
    go_wp2_with fail
    refine (NR.zero (xs := jc) (by repeat (first | with_reducible exact Sc | with_reducible apply Rd.al | with_reducible apply Rd.dr | with_reducible apply Rd.dr1)) rfl (by omega) β (by rw [Nc.out]; exact Hβ.out)).mono ?_; rintro e w' ⟨rfl, rfl⟩
    go_wp2_with fail
    refine (NR.zero (xs := xs) (by repeat (first | with_reducible exact Sx | with_reducible apply Rd.al | with_reducible apply Rd.dr | with_reducible apply Rd.dr1)) rfl (by omega) β Hβ.out).mono ?_; rintro e w' ⟨rfl, rfl⟩
    go_wp2_with fail
    refine (LN.trimmed (xs := ja) (by repeat (first | with_reducible exact Sa | with_reducible apply Rd.al | with_reducible apply Rd.dr | with_reducible apply Rd.dr1)) rfl (Nat.le_trans (show ja.length ≤ 100000 from (Nat.le_trans (NR.len_of Ha.out (fx.sub _)) (by first | decide | omega))) (by decide)) _ Ha.out).mono ?_; rintro e w' ⟨rfl, rfl⟩
    go_wp2_with fail
    refine (LN.trimmed (xs := je) (by repeat (first | with_reducible exact Se | with_reducible apply Rd.al | with_reducible apply Rd.dr | with_reducible apply Rd.dr1)) rfl (Nat.le_trans (show je.length ≤ 100000 from (Nat.le_trans (NR.len_of He.out (fx.shl _)) (by first | decide | omega))) (by decide)) _ He.out).mono ?_; rintro e w' ⟨rfl, rfl⟩
    go_wp2_with fail
    refine (LN.trimmed (xs := jf) (by repeat (first | with_reducible exact Sf | with_reducible apply Rd.al | with_reducible apply Rd.dr | with_reducible apply Rd.dr1)) rfl (Nat.le_trans (show jf.length ≤ 100000 from (Nat.le_trans (NR.len_of Hf.out (fx.div _)) (by first | decide | omega))) (by decide)) _ Hf.out).mono ?_; rintro e w' ⟨rfl, rfl⟩
    go_wp2_with fail
    refine (LN.trimmed (xs := js) (by repeat (first | with_reducible exact Ss | with_reducible apply Rd.al | with_reducible apply Rd.dr | with_reducible apply Rd.dr1)) rfl (Nat.le_trans (show js.length ≤ 100000 from (Nat.le_trans (NR.len_of Hs.out (fx.add fy)) (by first | decide | omega))) (by decide)) _ Hs.out).mono ?_; rintro e w' ⟨rfl, rfl⟩
    go_wp2_with fail
    refine (LN.trimmed (xs := jt) (by repeat (first | with_reducible exact St | with_reducible apply Rd.al | with_reducible apply Rd.dr | with_reducible apply Rd.dr1)) rfl (Nat.le_trans (show jt.length ≤ 100000 from (Nat.le_trans (NR.len_of Ht.out (fx.mul fy)) (by first | decide | omega))) (by decide)) _ Ht.out).mono ?_; rintro e w' ⟨rfl, rfl⟩
    obtain ⟨jo, hjo⟩ : ∃ z : List Nat, z = L (V xs) := ⟨_, rfl⟩
    have No : Hid (V jo = V xs) := Lib.hid (by rw [hjo, V_L])
    have Ho := Lib.hid hjo; clear hjo
    go_wp2_with fail
    refine (NR.trim (xs := jc) (zs := jo) (by repeat (first | with_reducible exact Sc | with_reducible apply Rd.al | with_reducible apply Rd.dr | with_reducible apply Rd.dr1)) rfl (by omega)  (Ho.out.trans (congrArg L (by first | with_reducible rfl | simp only [Nc.out, LN.V_nil, LN.V_one])))).mono ?_; rintro e u19 ⟨po, qo, rfl, ho, hb⟩
    replace Sx : Rd u19 a0 cap0 (xs) := Rd.nx (by repeat (first | with_reducible exact Sx | with_reducible apply Rd.al | with_reducible apply Rd.dr | with_reducible apply Rd.dr1)) hb
    replace Sy : Rd u19 a1 cap1 (ys) := Rd.nx (by repeat (first | with_reducible exact Sy | with_reducible apply Rd.al | with_reducible apply Rd.dr | with_reducible apply Rd.dr1)) hb
    replace Sc : Rd u19 pc qc (jc) := Rd.nx (by repeat (first | with_reducible exact Sc | with_reducible apply Rd.al | with_reducible apply Rd.dr | with_reducible apply Rd.dr1)) hb
    replace Sd : Rd u19 pd qd (jd) := Rd.nx (by repeat (first | with_reducible exact Sd | with_reducible apply Rd.al | with_reducible apply Rd.dr | with_reducible apply Rd.dr1)) hb
    replace Sa : Rd u19 pa qa (ja) := Rd.nx (by repeat (first | with_reducible exact Sa | with_reducible apply Rd.al | with_reducible apply Rd.dr | with_reducible apply Rd.dr1)) hb
    replace Se : Rd u19 pe qe (je) := Rd.nx (by repeat (first | with_reducible exact Se | with_reducible apply Rd.al | with_reducible apply Rd.dr | with_reducible apply Rd.dr1)) hb
    replace Sf : Rd u19 pf qf (jf) := Rd.nx (by repeat (first | with_reducible exact Sf | with_reducible apply Rd.al | with_reducible apply Rd.dr | with_reducible apply Rd.dr1)) hb
    replace Ss : Rd u19 ps qs (js) := Rd.nx (by repeat (first | with_reducible exact Ss | with_reducible apply Rd.al | with_reducible apply Rd.dr | with_reducible apply Rd.dr1)) hb
    replace St : Rd u19 pt qt (jt) := Rd.nx (by repeat (first | with_reducible exact St | with_reducible apply Rd.al | with_reducible apply Rd.dr | with_reducible apply Rd.dr1)) hb
    replace K : Kp w u19 := Kp.nx (by repeat (first | with_reducible exact K | with_reducible apply Kp.al | with_reducible apply Kp.dr | with_reducible apply Kp.dr1)) hb
    have So : Rd u19 po qo (jo) := ho.rd
    clear ho hb
    go_wp2_with fail
    refine (LN.trimmed (xs := jo) (by repeat (first | with_reducible exact So | with_reducible apply Rd.al | with_reducible apply Rd.dr | with_reducible apply Rd.dr1)) rfl (Nat.le_trans (show jo.length ≤ 100000 from (Nat.le_trans (NR.len_of Ho.out fx) (by first | decide | omega))) (by decide)) _ Ho.out).mono ?_; rintro e w' ⟨rfl, rfl⟩
    obtain ⟨jp, hjp⟩ : ∃ z : List Nat, z = L (n) := ⟨_, rfl⟩
    have Np : Hid (V jp = n) := Lib.hid (by rw [hjp, V_L])
    have Hp := Lib.hid hjp; clear hjp
    go_wp2_with fail
    refine (Hp.out ▸ NR.of n _ (by omega)).mono ?_; rintro e u20 ⟨pp, qp, rfl, ho, hb⟩
    replace Sx : Rd u20 a0 cap0 (xs) := Rd.nx (by repeat (first | with_reducible exact Sx | with_reducible apply Rd.al | with_reducible apply Rd.dr | with_reducible apply Rd.dr1)) hb
    replace Sy : Rd u20 a1 cap1 (ys) := Rd.nx (by repeat (first | with_reducible exact Sy | with_reducible apply Rd.al | with_reducible apply Rd.dr | with_reducible apply Rd.dr1)) hb
    replace Sc : Rd u20 pc qc (jc) := Rd.nx (by repeat (first | with_reducible exact Sc | with_reducible apply Rd.al | with_reducible apply Rd.dr | with_reducible apply Rd.dr1)) hb
    replace Sd : Rd u20 pd qd (jd) := Rd.nx (by repeat (first | with_reducible exact Sd | with_reducible apply Rd.al | with_reducible apply Rd.dr | with_reducible apply Rd.dr1)) hb
    replace Sa : Rd u20 pa qa (ja) := Rd.nx (by repeat (first | with_reducible exact Sa | with_reducible apply Rd.al | with_reducible apply Rd.dr | with_reducible apply Rd.dr1)) hb
    replace Se : Rd u20 pe qe (je) := Rd.nx (by repeat (first | with_reducible exact Se | with_reducible apply Rd.al | with_reducible apply Rd.dr | with_reducible apply Rd.dr1)) hb
    replace Sf : Rd u20 pf qf (jf) := Rd.nx (by repeat (first | with_reducible exact Sf | with_reducible apply Rd.al | with_reducible apply Rd.dr | with_reducible apply Rd.dr1)) hb
    replace Ss : Rd u20 ps qs (js) := Rd.nx (by repeat (first | with_reducible exact Ss | with_reducible apply Rd.al | with_reducible apply Rd.dr | with_reducible apply Rd.dr1)) hb
    replace St : Rd u20 pt qt (jt) := Rd.nx (by repeat (first | with_reducible exact St | with_reducible apply Rd.al | with_reducible apply Rd.dr | with_reducible apply Rd.dr1)) hb
    replace So : Rd u20 po qo (jo) := Rd.nx (by repeat (first | with_reducible exact So | with_reducible apply Rd.al | with_reducible apply Rd.dr | with_reducible apply Rd.dr1)) hb
    replace K : Kp w u20 := Kp.nx (by repeat (first | with_reducible exact K | with_reducible apply Kp.al | with_reducible apply Kp.dr | with_reducible apply Kp.dr1)) hb
    have Sp : Rd u20 pp qp (jp) := ho.rd
    clear ho hb
    go_wp2_with fail
    refine (LN.trimmed (xs := jp) (by repeat (first | with_reducible exact Sp | with_reducible apply Rd.al | with_reducible apply Rd.dr | with_reducible apply Rd.dr1)) rfl (Nat.le_trans (show jp.length ≤ 100000 from (Nat.le_trans (NR.len_of Hp.out (show Fits n 1 by unfold Fits; omega)) (by first | decide | omega))) (by decide)) _ Hp.out).mono ?_; rintro e w' ⟨rfl, rfl⟩
    go_wp2_with fail
    go_ret
    exact ⟨rfl, Kp.below (by repeat (first | with_reducible exact K | with_reducible apply Kp.al | with_reducible apply Kp.dr | with_reducible apply Kp.dr1))⟩

/-! ### THE ROW's STEP: WRITTEN OUT: LEAVE IT -/
set_option maxRecDepth 100000 in
theorem lifted (os : Os) (started : os.Started) (H : Type) (enc : TypeId × Value → H) :
    ReturnsInHanded {} Try.checked os 8 .any (Rows.natTailsSpec.pre6 enc Try.prog Try.f8 Rows.natTailsRow.domain false) (Rows.natTailsSpec.post enc Try.prog Try.f8 false true false false) := by
  refine returnsInHanded_of_change (C := Try.checked) own started (by kernel_rfl) Try.func8
    (ChangeSpec.witness6 (enc := enc) (C := Try.checked) false ⟨#[], #[.slice none 0 0, .slice none 0 0, .int .u8 0, .int .u8 0], []⟩ 8 (by kernel_rfl) (by kernel_rfl) (by kernel_rfl) (by kernel_rfl)) ?_
  intro W base args ds gs before hval0 hW hcnd _
  have hval : ∀ (j : Nat) t v, Try.f8.params[j]? = some t → args[j]? = some v → Value.okWide Try.prog W .any base t v := hval0
  have hW' := hW
  obtain ⟨p, q, hA0, hV, rfl, hfz, hnd⟩ := hW
  have hA : DataW.TrodAll enc Try.prog W 0 (fun _ => true) true Try.f8.params.toList args.toList ds p := hA0
  rw [Try.params8] at hA hval
  obtain ⟨v0, vs0, d0, ds0, p0, q0, hargs, rfl, rfl, h0, r0⟩ := trodAll_cons hA
  obtain ⟨v1, vs1, d1, ds1, p1, q1, rfl, rfl, rfl, h1, r1⟩ := trodAll_cons r0
  obtain ⟨v2, vs2, d2, ds2, p2, q2, rfl, rfl, rfl, h2, r2⟩ := trodAll_cons r1
  obtain ⟨v3, vs3, d3, ds3, p3, q3, rfl, rfl, rfl, h3, r3⟩ := trodAll_cons r2
  obtain ⟨rfl, rfl, rfl⟩ := trodAll_nil r3
  obtain rfl : args = #[v0, v1, v2, v3] := by cases args; simp_all
  obtain ⟨rfl, rfl⟩ := trodVars_none hV
  obtain ⟨a0, len0, cap0, rfl⟩ := okWide_slice Try.underlying23 (hval 0 23 v0 rfl rfl)
  have k0 := h0
  have lt0 : ∀ x ∈ p0, x.block < W.heap.size := by obtain ⟨m, hm⟩ := k0; exact DataW.trod_lt m _ _ _ hm
  obtain ⟨z0, w0⟩ : ∃ zs, IsRow .u64 W a0 len0 cap0 zs := by
    obtain ⟨fuel, hf⟩ := h0
    rcases open_ints Try.underlying23 Try.underlying34 (by kernel_rfl) hf with ⟨hcs, _⟩ | ⟨x, l, c, zs, hcs, _, hl, hm, hz, _, hcell, hwz⟩
    · simp [Value.cells] at hcs
      obtain ⟨rfl, rfl, rfl⟩ := hcs
      exact ⟨[], .inl ⟨rfl, rfl, rfl, rfl⟩⟩
    · simp [Value.cells] at hcs
      obtain ⟨rfl, rfl, rfl⟩ := hcs
      exact ⟨zs, .inr ⟨_, rfl, hl, hm, by simpa using hz, hcell, hwz⟩⟩
  obtain ⟨a1, len1, cap1, rfl⟩ := okWide_slice Try.underlying23 (hval 1 23 v1 rfl rfl)
  have k1 := h1
  have lt1 : ∀ x ∈ p1, x.block < W.heap.size := by obtain ⟨m, hm⟩ := k1; exact DataW.trod_lt m _ _ _ hm
  obtain ⟨z1, w1⟩ : ∃ zs, IsRow .u64 W a1 len1 cap1 zs := by
    obtain ⟨fuel, hf⟩ := h1
    rcases open_ints Try.underlying23 Try.underlying34 (by kernel_rfl) hf with ⟨hcs, _⟩ | ⟨x, l, c, zs, hcs, _, hl, hm, hz, _, hcell, hwz⟩
    · simp [Value.cells] at hcs
      obtain ⟨rfl, rfl, rfl⟩ := hcs
      exact ⟨[], .inl ⟨rfl, rfl, rfl, rfl⟩⟩
    · simp [Value.cells] at hcs
      obtain ⟨rfl, rfl, rfl⟩ := hcs
      exact ⟨zs, .inr ⟨_, rfl, hl, hm, by simpa using hz, hcell, hwz⟩⟩
  obtain ⟨a2, rfl, rfl, rfl, w2⟩ := open_int Try.underlying5 (hval 2 5 v2 rfl rfl) h2
  obtain ⟨a3, rfl, rfl, rfl, w3⟩ := open_int Try.underlying5 (hval 3 5 v3 rfl rfl) h3
  clear hA0 hval0
  refine (walk a0 len0 cap0 z0 a1 len1 cap1 z1 a2 a3 W w0 w1 w2 w3).mono fun e W' ⟨he, bel⟩ => ?_
  subst he
  exact ⟨_, rfl, _, _, _, [], _, [], hW', trodAll_mk1 (shut_bool Try.underlying4 _), (trodAll_cons_mk (Below.trod laidOut (by kernel_rfl) (of_decide_eq_true (by kernel_rfl)) k0 bel lt0) (trodAll_cons_mk (Below.trod laidOut (by kernel_rfl) (of_decide_eq_true (by kernel_rfl)) k1 bel lt1) (trodAll_cons_mk (shut_int Try.underlying5 w2) (trodAll_cons_mk (shut_int Try.underlying5 w3) trodAll_mk0)))), rfl, bel.frame _, fun h => by cases h⟩

theorem over : Rows.natTailsRow.holds Try.pinned (OpenSpec.ofChange Rows.natTailsSpec) :=
  OpenClaim.holds_of_wide 8 Try.f8 rfl rfl rfl rfl rfl rfl rfl ⟨rfl, rfl, rfl, rfl, rfl⟩ rfl rfl rfl rfl rfl (by kernel_rfl) Try.func8 (by kernel_rfl)
    (of_decide_eq_true (by kernel_rfl)) (by unfold Func.isWrapper; first | (rw [if_pos (by decide +kernel)]; kernel_rfl) | (rw [if_neg (by decide +kernel)]; exact ⟨rfl, rfl⟩))
    (fun os started H enc _ => lifted os started H enc)

/-- ████ THE STATEMENT ████ -/
theorem proved : Rows.NatTailsSaid := over
#print axioms proved
end Go.Proofs.Ytacjfbjhkogdaaa.natTails
