/- The statement NatShifts: a natural shifted up is its product by a power of 2; shifted back it is the natural; shifted down and up it is the natural without its lowest places; the length rises by the number of places, but of 0. No condition. -/
import Derived.Test.YtacjfbjhkogdaaaRows
import Derived.WalkKit
import Derived.ProofKit
import Derived.OpenShut
import Derived.Test.YtacjfbjhkogdaaaNatLaw
import Derived.ShutString
import Derived.ChangeOld
import Derived.Below
namespace Go.Proofs.Ytacjfbjhkogdaaa.natShifts
open Go.ChangeShapes Go.WideShapes Go.ChangeAt Go.RowKit
open Go.Proofs
open Go.ChangeMaps (open_string shut_string)
set_option linter.unusedVariables false

theorem own : ownKnob Try.prog.godebug = none := by kernel_rfl
theorem laidOut : laidOutB Try.prog = true := by kernel_rfl

/-- WHAT THE WALK IS TOLD OF A SLICE OF INTEGERS THAT CAME IN: it is nil; or it leads to a row of 'cap' cells, the numbers 'zs' (the first 'len' are its elements, the rest its spare room), each fitting its kind. -/
def IsRow (k : IntKind) (w : World) (a : Option Addr) (len cap : Nat) (zs : List Int) : Prop :=
  (a = none ∧ len = 0 ∧ cap = 0 ∧ zs = []) ∨
  ∃ x, a = some x ∧ len ≤ cap ∧ cap ≤ maxLen ∧ zs.length = cap ∧ (∀ i, i < zs.length → w.cell? (x.add i) = some (.int k (zs.getD i 0))) ∧ ∀ n ∈ zs, (Lit.int k n).wf = true

open Go.Proofs.NP Go.Proofs.SL Go.Proofs.NR Go.Lib
set_option linter.unusedSimpArgs false
theorem rem16 (a m : Int) (hm : 0 < m) (h : (Lit.int .u16 a).wf = true) (hw : wrap64 a = a) : ∃ n : Nat, Hid ((wrap64 a).tmod m = (n : Int)) ∧ (n : Int) < m := by
  have ⟨h0, h1⟩ := bounds_u16 h
  refine ⟨(a.tmod m).toNat, Lib.hid ?_, ?_⟩
  · rw [hw, Int.toNat_of_nonneg (Int.tmod_nonneg m h0)]
  · rw [Int.toNat_of_nonneg (Int.tmod_nonneg m h0)]; exact Int.tmod_lt_of_pos a hm
theorem wrap16 (a : Int) (h : (Lit.int .u16 a).wf = true) : wrap64 a = a := by
  have ⟨h0, h1⟩ := bounds_u16 h
  unfold wrap64; omega

/-! ### STEP 1: THE WALK: the Go text returns true, AND WRITES NOTHING THAT WAS THERE: 'Below w.heap.size w w'' (Derived/Below.lean: '.refl', '.alloc', '.drew', '.setCell' at a new block, '.trans'). Open each 'IsRow' by 'rcases' AHEAD of 'go_enter'; part every test ahead of the walk. -/
set_option maxHeartbeats 8000000 in
set_option maxRecDepth 100000 in
theorem walk (a0 : Option Addr) (len0 cap0 : Nat) (z0 : List Int) (a1 : Int) (a2 : Int) (w : World) (w0 : IsRow .u64 w a0 len0 cap0 z0) (w1 : (Lit.int .u16 a1).wf = true) (w2 : (Lit.int .u16 a2).wf = true) :
    Calls Try.prog 9 #[.slice a0 len0 cap0, .int .u16 a1, .int .u16 a2] w fun e w' => e = .returned (.bool true) ∧ Below w.heap.size w w' := by
  obtain ⟨xs, rfl, Sx⟩ := LN.rows w0
  have K : Kp w w := Kp.refl w
  clear w0
  by_cases hs : ¬ (xs.length ≤ 24)
  · have hz : true = decide (24 < xs.length) := by simp; omega
    clear hs
    have HZ := Lib.hid hz; clear hz
    go_enter Try.func9, Try.ntmps9
    go_wp2_with fail
    refine (LN.long1 (by simp) true HZ).mono ?_; rintro e w' ⟨rfl, rfl⟩
    go_wp2_with fail
    refine (LN.awake _).mono ?_; rintro e u1 ⟨rfl, hb⟩
    replace Sx : Rd u1 a0 cap0 (xs) := Rd.nx (by repeat (first | with_reducible exact Sx | with_reducible apply Rd.al | with_reducible apply Rd.dr | with_reducible apply Rd.dr1)) hb
    replace K : Kp w u1 := Kp.nx (by repeat (first | with_reducible exact K | with_reducible apply Kp.al | with_reducible apply Kp.dr | with_reducible apply Kp.dr1)) hb
    clear hb
    go_wp2_with fail
    go_ret
    exact ⟨rfl, Kp.below (by repeat (first | with_reducible exact K | with_reducible apply Kp.al | with_reducible apply Kp.dr | with_reducible apply Kp.dr1))⟩
  obtain n0 : xs.length ≤ 24 := by omega
  clear hs
  have fx : Fits (V xs) 24 := Fits.of Sx.ws (by omega)
  have hz : false = decide (24 < xs.length) := by simp; omega
  have HZ := Lib.hid hz; clear hz
  obtain ⟨n, Hn, bn⟩ := rem16 a1 400 (by decide) w1 (wrap16 _ w1)
  obtain ⟨k, Hk, bk⟩ := rem16 a2 2000 (by decide) w2 (wrap16 _ w2)
  clear w1 w2
  have bn1 : n ≤ 399 := by omega
  have bk1 : k ≤ 1999 := by omega
  clear bn bk
  by_cases hx : V xs = 0
  · by_cases hk : n ≤ k
    · have hk2 : (n : Int) ≤ (k : Int) := by omega
      have Hx := Lib.hid hx; clear hx
      obtain ⟨β, hβ⟩ : ∃ t : Bool, t = (V xs / 2 ^ k % 2 == 1) := ⟨_, rfl⟩
      obtain ⟨γ, hγ⟩ : ∃ t : Bool, t = (V xs / 2 ^ (k + n) % 2 == 1) := ⟨_, rfl⟩
      have Hβ := Lib.hid hβ; have Hγ := Lib.hid hγ; clear hβ hγ
      go_enter Try.func9, Try.ntmps9
      go_wp2_with fail
      refine (LN.long1 (by simp) false HZ).mono ?_; rintro e w' ⟨rfl, rfl⟩
      go_wp2_with fail
      refine (LN.awake _).mono ?_; rintro e u1 ⟨rfl, hb⟩
      replace Sx : Rd u1 a0 cap0 (xs) := Rd.nx (by repeat (first | with_reducible exact Sx | with_reducible apply Rd.al | with_reducible apply Rd.dr | with_reducible apply Rd.dr1)) hb
      replace K : Kp w u1 := Kp.nx (by repeat (first | with_reducible exact K | with_reducible apply Kp.al | with_reducible apply Kp.dr | with_reducible apply Kp.dr1)) hb
      clear hb
      go_wp2_with fail
      rw [Hn.out]
      obtain ⟨jb, hjb⟩ : ∃ z : List Nat, z = L ((V xs) * 2 ^ n) := ⟨_, rfl⟩
      have Nb : Hid (V jb = (V xs) * 2 ^ n) := Lib.hid (by rw [hjb, V_L])
      have Hb := Lib.hid hjb; clear hjb
      go_wp2_with fail
      refine (NR.shl_ok (xs := xs) (zs := jb) (by repeat (first | with_reducible exact Sx | with_reducible apply Rd.al | with_reducible apply Rd.dr | with_reducible apply Rd.dr1)) rfl (by omega) n (by omega) (Hb.out.trans (congrArg L (by first | with_reducible rfl | simp only [LN.V_nil, LN.V_one])))).mono ?_; rintro e u2 ⟨pb, qb, rfl, ho, hb⟩
      replace Sx : Rd u2 a0 cap0 (xs) := Rd.nx (by repeat (first | with_reducible exact Sx | with_reducible apply Rd.al | with_reducible apply Rd.dr | with_reducible apply Rd.dr1)) hb
      replace K : Kp w u2 := Kp.nx (by repeat (first | with_reducible exact K | with_reducible apply Kp.al | with_reducible apply Kp.dr | with_reducible apply Kp.dr1)) hb
      have Sb : Rd u2 pb qb (jb) := ho.rd
      clear ho hb
      obtain ⟨jp, hjp⟩ : ∃ z : List Nat, z = L ((V [1]) * 2 ^ n) := ⟨_, rfl⟩
      have Np : Hid (V jp = (V [1]) * 2 ^ n) := Lib.hid (by rw [hjp, V_L])
      have Hp := Lib.hid hjp; clear hjp
      go_wp2_with fail
      refine (NR.shl_ok (xs := [1]) (zs := jp) (by repeat (first | exact Rd.litn [1] #[.int .u64 1] (ws_of _ (by decide +kernel)) rfl (by decide) (by simp) | with_reducible apply Rd.al)) rfl (by decide) n (by omega) (Hp.out.trans (congrArg L (by first | with_reducible rfl | simp only [LN.V_nil, LN.V_one])))).mono ?_; rintro e u3 ⟨pp, qp, rfl, ho, hb⟩
      replace Sx : Rd u3 a0 cap0 (xs) := Rd.nx (by repeat (first | with_reducible exact Sx | with_reducible apply Rd.al | with_reducible apply Rd.dr | with_reducible apply Rd.dr1)) hb
      replace Sb : Rd u3 pb qb (jb) := Rd.nx (by repeat (first | with_reducible exact Sb | with_reducible apply Rd.al | with_reducible apply Rd.dr | with_reducible apply Rd.dr1)) hb
      replace K : Kp w u3 := Kp.nx (by repeat (first | with_reducible exact K | with_reducible apply Kp.al | with_reducible apply Kp.dr | with_reducible apply Kp.dr1)) hb
      have Sp : Rd u3 pp qp (jp) := ho.rd
      clear ho hb
      obtain ⟨jc, hjc⟩ : ∃ z : List Nat, z = L (((V xs) * 2 ^ n) / 2 ^ n) := ⟨_, rfl⟩
      have Nc : Hid (V jc = ((V xs) * 2 ^ n) / 2 ^ n) := Lib.hid (by rw [hjc, V_L])
      have Hc := Lib.hid hjc; clear hjc
      go_wp2_with fail
      refine (NR.shr_ok (xs := jb) (zs := jc) (by repeat (first | with_reducible exact Sb | with_reducible apply Rd.al | with_reducible apply Rd.dr | with_reducible apply Rd.dr1)) rfl (Nat.le_trans (NR.len_of Hb.out (fx.shl _)) (by first | decide | omega)) n (by omega) (Hc.out.trans (congrArg L (by first | with_reducible rfl | simp only [Nb.out, LN.V_nil, LN.V_one])))).mono ?_; rintro e u4 ⟨pc, qc, rfl, ho, hb⟩
      replace Sx : Rd u4 a0 cap0 (xs) := Rd.nx (by repeat (first | with_reducible exact Sx | with_reducible apply Rd.al | with_reducible apply Rd.dr | with_reducible apply Rd.dr1)) hb
      replace Sb : Rd u4 pb qb (jb) := Rd.nx (by repeat (first | with_reducible exact Sb | with_reducible apply Rd.al | with_reducible apply Rd.dr | with_reducible apply Rd.dr1)) hb
      replace Sp : Rd u4 pp qp (jp) := Rd.nx (by repeat (first | with_reducible exact Sp | with_reducible apply Rd.al | with_reducible apply Rd.dr | with_reducible apply Rd.dr1)) hb
      replace K : Kp w u4 := Kp.nx (by repeat (first | with_reducible exact K | with_reducible apply Kp.al | with_reducible apply Kp.dr | with_reducible apply Kp.dr1)) hb
      have Sc : Rd u4 pc qc (jc) := ho.rd
      clear ho hb
      obtain ⟨jd, hjd⟩ : ∃ z : List Nat, z = L ((V xs) / 2 ^ n) := ⟨_, rfl⟩
      have Nd : Hid (V jd = (V xs) / 2 ^ n) := Lib.hid (by rw [hjd, V_L])
      have Hd := Lib.hid hjd; clear hjd
      go_wp2_with fail
      refine (NR.shr_ok (xs := xs) (zs := jd) (by repeat (first | with_reducible exact Sx | with_reducible apply Rd.al | with_reducible apply Rd.dr | with_reducible apply Rd.dr1)) rfl (by omega) n (by omega) (Hd.out.trans (congrArg L (by first | with_reducible rfl | simp only [LN.V_nil, LN.V_one])))).mono ?_; rintro e u5 ⟨pd, qd, rfl, ho, hb⟩
      replace Sx : Rd u5 a0 cap0 (xs) := Rd.nx (by repeat (first | with_reducible exact Sx | with_reducible apply Rd.al | with_reducible apply Rd.dr | with_reducible apply Rd.dr1)) hb
      replace Sb : Rd u5 pb qb (jb) := Rd.nx (by repeat (first | with_reducible exact Sb | with_reducible apply Rd.al | with_reducible apply Rd.dr | with_reducible apply Rd.dr1)) hb
      replace Sp : Rd u5 pp qp (jp) := Rd.nx (by repeat (first | with_reducible exact Sp | with_reducible apply Rd.al | with_reducible apply Rd.dr | with_reducible apply Rd.dr1)) hb
      replace Sc : Rd u5 pc qc (jc) := Rd.nx (by repeat (first | with_reducible exact Sc | with_reducible apply Rd.al | with_reducible apply Rd.dr | with_reducible apply Rd.dr1)) hb
      replace K : Kp w u5 := Kp.nx (by repeat (first | with_reducible exact K | with_reducible apply Kp.al | with_reducible apply Kp.dr | with_reducible apply Kp.dr1)) hb
      have Sd : Rd u5 pd qd (jd) := ho.rd
      clear ho hb
      obtain ⟨je, hje⟩ : ∃ z : List Nat, z = L (((V xs) / 2 ^ n) * 2 ^ n) := ⟨_, rfl⟩
      have Ne : Hid (V je = ((V xs) / 2 ^ n) * 2 ^ n) := Lib.hid (by rw [hje, V_L])
      have He := Lib.hid hje; clear hje
      go_wp2_with fail
      refine (NR.shl_ok (xs := jd) (zs := je) (by repeat (first | with_reducible exact Sd | with_reducible apply Rd.al | with_reducible apply Rd.dr | with_reducible apply Rd.dr1)) rfl (Nat.le_trans (NR.len_of Hd.out (fx.div _)) (by first | decide | omega)) n (by omega) (He.out.trans (congrArg L (by first | with_reducible rfl | simp only [Nd.out, LN.V_nil, LN.V_one])))).mono ?_; rintro e u6 ⟨pe, qe, rfl, ho, hb⟩
      replace Sx : Rd u6 a0 cap0 (xs) := Rd.nx (by repeat (first | with_reducible exact Sx | with_reducible apply Rd.al | with_reducible apply Rd.dr | with_reducible apply Rd.dr1)) hb
      replace Sb : Rd u6 pb qb (jb) := Rd.nx (by repeat (first | with_reducible exact Sb | with_reducible apply Rd.al | with_reducible apply Rd.dr | with_reducible apply Rd.dr1)) hb
      replace Sp : Rd u6 pp qp (jp) := Rd.nx (by repeat (first | with_reducible exact Sp | with_reducible apply Rd.al | with_reducible apply Rd.dr | with_reducible apply Rd.dr1)) hb
      replace Sc : Rd u6 pc qc (jc) := Rd.nx (by repeat (first | with_reducible exact Sc | with_reducible apply Rd.al | with_reducible apply Rd.dr | with_reducible apply Rd.dr1)) hb
      replace Sd : Rd u6 pd qd (jd) := Rd.nx (by repeat (first | with_reducible exact Sd | with_reducible apply Rd.al | with_reducible apply Rd.dr | with_reducible apply Rd.dr1)) hb
      replace K : Kp w u6 := Kp.nx (by repeat (first | with_reducible exact K | with_reducible apply Kp.al | with_reducible apply Kp.dr | with_reducible apply Kp.dr1)) hb
      have Se : Rd u6 pe qe (je) := ho.rd
      clear ho hb
      obtain ⟨jm, hjm⟩ : ∃ z : List Nat, z = L ((V xs) * ((V [1]) * 2 ^ n)) := ⟨_, rfl⟩
      have Nm : Hid (V jm = (V xs) * ((V [1]) * 2 ^ n)) := Lib.hid (by rw [hjm, V_L])
      have Hm := Lib.hid hjm; clear hjm
      go_wp2_with fail
      refine (NR.mul (xs := xs) (ys := jp) (zs := jm) (by repeat (first | with_reducible exact Sx | with_reducible apply Rd.al | with_reducible apply Rd.dr | with_reducible apply Rd.dr1)) (by repeat (first | with_reducible exact Sp | with_reducible apply Rd.al | with_reducible apply Rd.dr | with_reducible apply Rd.dr1)) rfl rfl (by omega) (Nat.le_trans (NR.len_of Hp.out ((show Fits 1 1 by unfold Fits; decide +kernel).shl _)) (by first | decide | omega))  (Hm.out.trans (congrArg L (by first | with_reducible rfl | simp only [Np.out, LN.V_nil, LN.V_one])))).mono ?_; rintro e u7 ⟨pm, qm, rfl, ho, hb⟩
      replace Sx : Rd u7 a0 cap0 (xs) := Rd.nx (by repeat (first | with_reducible exact Sx | with_reducible apply Rd.al | with_reducible apply Rd.dr | with_reducible apply Rd.dr1)) hb
      replace Sb : Rd u7 pb qb (jb) := Rd.nx (by repeat (first | with_reducible exact Sb | with_reducible apply Rd.al | with_reducible apply Rd.dr | with_reducible apply Rd.dr1)) hb
      replace Sp : Rd u7 pp qp (jp) := Rd.nx (by repeat (first | with_reducible exact Sp | with_reducible apply Rd.al | with_reducible apply Rd.dr | with_reducible apply Rd.dr1)) hb
      replace Sc : Rd u7 pc qc (jc) := Rd.nx (by repeat (first | with_reducible exact Sc | with_reducible apply Rd.al | with_reducible apply Rd.dr | with_reducible apply Rd.dr1)) hb
      replace Sd : Rd u7 pd qd (jd) := Rd.nx (by repeat (first | with_reducible exact Sd | with_reducible apply Rd.al | with_reducible apply Rd.dr | with_reducible apply Rd.dr1)) hb
      replace Se : Rd u7 pe qe (je) := Rd.nx (by repeat (first | with_reducible exact Se | with_reducible apply Rd.al | with_reducible apply Rd.dr | with_reducible apply Rd.dr1)) hb
      replace K : Kp w u7 := Kp.nx (by repeat (first | with_reducible exact K | with_reducible apply Kp.al | with_reducible apply Kp.dr | with_reducible apply Kp.dr1)) hb
      have Sm : Rd u7 pm qm (jm) := ho.rd
      clear ho hb
      go_wp2_with fail
      refine (NR.same_yes (xs := jb) (ys := jm) (by repeat (first | with_reducible exact Sb | with_reducible apply Rd.al | with_reducible apply Rd.dr | with_reducible apply Rd.dr1)) (by repeat (first | with_reducible exact Sm | with_reducible apply Rd.al | with_reducible apply Rd.dr | with_reducible apply Rd.dr1)) rfl rfl (Nat.le_trans (NR.len_of Hb.out (fx.shl _)) (by first | decide | omega)) (Hb.out.trans ((congrArg L (by rw [LN.V_one, Nat.one_mul])).trans Hm.out.symm))).mono ?_; rintro e u8 ⟨rfl, hb⟩
      replace Sx : Rd u8 a0 cap0 (xs) := Rd.nx (by repeat (first | with_reducible exact Sx | with_reducible apply Rd.al | with_reducible apply Rd.dr | with_reducible apply Rd.dr1)) hb
      replace Sb : Rd u8 pb qb (jb) := Rd.nx (by repeat (first | with_reducible exact Sb | with_reducible apply Rd.al | with_reducible apply Rd.dr | with_reducible apply Rd.dr1)) hb
      replace Sp : Rd u8 pp qp (jp) := Rd.nx (by repeat (first | with_reducible exact Sp | with_reducible apply Rd.al | with_reducible apply Rd.dr | with_reducible apply Rd.dr1)) hb
      replace Sc : Rd u8 pc qc (jc) := Rd.nx (by repeat (first | with_reducible exact Sc | with_reducible apply Rd.al | with_reducible apply Rd.dr | with_reducible apply Rd.dr1)) hb
      replace Sd : Rd u8 pd qd (jd) := Rd.nx (by repeat (first | with_reducible exact Sd | with_reducible apply Rd.al | with_reducible apply Rd.dr | with_reducible apply Rd.dr1)) hb
      replace Se : Rd u8 pe qe (je) := Rd.nx (by repeat (first | with_reducible exact Se | with_reducible apply Rd.al | with_reducible apply Rd.dr | with_reducible apply Rd.dr1)) hb
      replace Sm : Rd u8 pm qm (jm) := Rd.nx (by repeat (first | with_reducible exact Sm | with_reducible apply Rd.al | with_reducible apply Rd.dr | with_reducible apply Rd.dr1)) hb
      replace K : Kp w u8 := Kp.nx (by repeat (first | with_reducible exact K | with_reducible apply Kp.al | with_reducible apply Kp.dr | with_reducible apply Kp.dr1)) hb
      clear hb
      obtain ⟨jt, hjt⟩ : ∃ z : List Nat, z = L (V xs) := ⟨_, rfl⟩
      have Nt : Hid (V jt = V xs) := Lib.hid (by rw [hjt, V_L])
      have Ht := Lib.hid hjt; clear hjt
      go_wp2_with fail
      refine (NR.trim (xs := xs) (zs := jt) (by repeat (first | with_reducible exact Sx | with_reducible apply Rd.al | with_reducible apply Rd.dr | with_reducible apply Rd.dr1)) rfl (by omega)  (Ht.out.trans (congrArg L (by first | with_reducible rfl | simp only [LN.V_nil, LN.V_one])))).mono ?_; rintro e u9 ⟨pt, qt, rfl, ho, hb⟩
      replace Sx : Rd u9 a0 cap0 (xs) := Rd.nx (by repeat (first | with_reducible exact Sx | with_reducible apply Rd.al | with_reducible apply Rd.dr | with_reducible apply Rd.dr1)) hb
      replace Sb : Rd u9 pb qb (jb) := Rd.nx (by repeat (first | with_reducible exact Sb | with_reducible apply Rd.al | with_reducible apply Rd.dr | with_reducible apply Rd.dr1)) hb
      replace Sp : Rd u9 pp qp (jp) := Rd.nx (by repeat (first | with_reducible exact Sp | with_reducible apply Rd.al | with_reducible apply Rd.dr | with_reducible apply Rd.dr1)) hb
      replace Sc : Rd u9 pc qc (jc) := Rd.nx (by repeat (first | with_reducible exact Sc | with_reducible apply Rd.al | with_reducible apply Rd.dr | with_reducible apply Rd.dr1)) hb
      replace Sd : Rd u9 pd qd (jd) := Rd.nx (by repeat (first | with_reducible exact Sd | with_reducible apply Rd.al | with_reducible apply Rd.dr | with_reducible apply Rd.dr1)) hb
      replace Se : Rd u9 pe qe (je) := Rd.nx (by repeat (first | with_reducible exact Se | with_reducible apply Rd.al | with_reducible apply Rd.dr | with_reducible apply Rd.dr1)) hb
      replace Sm : Rd u9 pm qm (jm) := Rd.nx (by repeat (first | with_reducible exact Sm | with_reducible apply Rd.al | with_reducible apply Rd.dr | with_reducible apply Rd.dr1)) hb
      replace K : Kp w u9 := Kp.nx (by repeat (first | with_reducible exact K | with_reducible apply Kp.al | with_reducible apply Kp.dr | with_reducible apply Kp.dr1)) hb
      have St : Rd u9 pt qt (jt) := ho.rd
      clear ho hb
      go_wp2_with fail
      refine (NR.same_yes (xs := jc) (ys := jt) (by repeat (first | with_reducible exact Sc | with_reducible apply Rd.al | with_reducible apply Rd.dr | with_reducible apply Rd.dr1)) (by repeat (first | with_reducible exact St | with_reducible apply Rd.al | with_reducible apply Rd.dr | with_reducible apply Rd.dr1)) rfl rfl (Nat.le_trans (NR.len_of Hc.out ((fx.shl _).div _)) (by first | decide | omega)) (Hc.out.trans ((congrArg L (Nat.mul_div_cancel _ (Nat.two_pow_pos n))).trans Ht.out.symm))).mono ?_; rintro e u10 ⟨rfl, hb⟩
      replace Sx : Rd u10 a0 cap0 (xs) := Rd.nx (by repeat (first | with_reducible exact Sx | with_reducible apply Rd.al | with_reducible apply Rd.dr | with_reducible apply Rd.dr1)) hb
      replace Sb : Rd u10 pb qb (jb) := Rd.nx (by repeat (first | with_reducible exact Sb | with_reducible apply Rd.al | with_reducible apply Rd.dr | with_reducible apply Rd.dr1)) hb
      replace Sp : Rd u10 pp qp (jp) := Rd.nx (by repeat (first | with_reducible exact Sp | with_reducible apply Rd.al | with_reducible apply Rd.dr | with_reducible apply Rd.dr1)) hb
      replace Sc : Rd u10 pc qc (jc) := Rd.nx (by repeat (first | with_reducible exact Sc | with_reducible apply Rd.al | with_reducible apply Rd.dr | with_reducible apply Rd.dr1)) hb
      replace Sd : Rd u10 pd qd (jd) := Rd.nx (by repeat (first | with_reducible exact Sd | with_reducible apply Rd.al | with_reducible apply Rd.dr | with_reducible apply Rd.dr1)) hb
      replace Se : Rd u10 pe qe (je) := Rd.nx (by repeat (first | with_reducible exact Se | with_reducible apply Rd.al | with_reducible apply Rd.dr | with_reducible apply Rd.dr1)) hb
      replace Sm : Rd u10 pm qm (jm) := Rd.nx (by repeat (first | with_reducible exact Sm | with_reducible apply Rd.al | with_reducible apply Rd.dr | with_reducible apply Rd.dr1)) hb
      replace St : Rd u10 pt qt (jt) := Rd.nx (by repeat (first | with_reducible exact St | with_reducible apply Rd.al | with_reducible apply Rd.dr | with_reducible apply Rd.dr1)) hb
      replace K : Kp w u10 := Kp.nx (by repeat (first | with_reducible exact K | with_reducible apply Kp.al | with_reducible apply Kp.dr | with_reducible apply Kp.dr1)) hb
      clear hb
      clear Sp
      clear Sc
      clear Sm
      clear St
      go_wp2_with fail
      refine (NR.zero (xs := xs) (by repeat (first | with_reducible exact Sx | with_reducible apply Rd.al | with_reducible apply Rd.dr | with_reducible apply Rd.dr1)) rfl (by omega) true (by rw [Hx.out]; rfl)).mono ?_; rintro e w' ⟨rfl, rfl⟩
      go_wp2_with fail
      refine (NR.zero (xs := xs) (by repeat (first | with_reducible exact Sx | with_reducible apply Rd.al | with_reducible apply Rd.dr | with_reducible apply Rd.dr1)) rfl (by omega) true (by rw [Hx.out]; rfl)).mono ?_; rintro e w' ⟨rfl, rfl⟩
      go_wp2_with fail
      refine (NR.len (xs := jb) (by repeat (first | with_reducible exact Sb | with_reducible apply Rd.al | with_reducible apply Rd.dr | with_reducible apply Rd.dr1)) rfl (Nat.le_trans (NR.len_of Hb.out (fx.shl _)) (by first | decide | omega)) 0 (by rw [Nb.out, Hx.out, Nat.zero_mul]; rfl)).mono ?_; rintro e w' ⟨rfl, rfl⟩
      go_wp2_with fail
      rw [Hk.out]
      go_wp2_with fail
      refine (LN.bitI (xs := je) (by repeat (first | with_reducible exact Se | with_reducible apply Rd.al | with_reducible apply Rd.dr | with_reducible apply Rd.dr1)) rfl _ (k) (by first | rfl | (unfold wrap64; omega)) (by omega) β (by rw [Ne.out, LN.bit_back_ge _ _ _ hk]; exact Hβ.out)).mono ?_; rintro e w' ⟨rfl, rfl⟩
      go_wp2_with fail
      refine (LN.bitI (xs := xs) (by repeat (first | with_reducible exact Sx | with_reducible apply Rd.al | with_reducible apply Rd.dr | with_reducible apply Rd.dr1)) rfl _ (k) (by first | rfl | (unfold wrap64; omega)) (by omega) β Hβ.out).mono ?_; rintro e w' ⟨rfl, rfl⟩
      go_wp2_with fail
      refine (LN.bitI (xs := jb) (by repeat (first | with_reducible exact Sb | with_reducible apply Rd.al | with_reducible apply Rd.dr | with_reducible apply Rd.dr1)) rfl _ (k + n) (by first | rfl | (unfold wrap64; omega)) (by omega) β (by rw [Nb.out, LN.bit_up]; exact Hβ.out)).mono ?_; rintro e w' ⟨rfl, rfl⟩
      go_wp2_with fail
      refine (LN.bitI (xs := xs) (by repeat (first | with_reducible exact Sx | with_reducible apply Rd.al | with_reducible apply Rd.dr | with_reducible apply Rd.dr1)) rfl _ (k) (by first | rfl | (unfold wrap64; omega)) (by omega) β Hβ.out).mono ?_; rintro e w' ⟨rfl, rfl⟩
      go_wp2_with fail
      refine (LN.bitI (xs := jd) (by repeat (first | with_reducible exact Sd | with_reducible apply Rd.al | with_reducible apply Rd.dr | with_reducible apply Rd.dr1)) rfl _ (k) (by first | rfl | (unfold wrap64; omega)) (by omega) γ (by rw [Nd.out, LN.bit_down]; exact Hγ.out)).mono ?_; rintro e w' ⟨rfl, rfl⟩
      go_wp2_with fail
      refine (LN.bitI (xs := xs) (by repeat (first | with_reducible exact Sx | with_reducible apply Rd.al | with_reducible apply Rd.dr | with_reducible apply Rd.dr1)) rfl _ (k + n) (by first | rfl | (unfold wrap64; omega)) (by omega) γ Hγ.out).mono ?_; rintro e w' ⟨rfl, rfl⟩
      go_wp2_with fail
      go_ret
      exact ⟨rfl, Kp.below (by repeat (first | with_reducible exact K | with_reducible apply Kp.al | with_reducible apply Kp.dr | with_reducible apply Kp.dr1))⟩
    · have hk2 : (k : Int) < (n : Int) := by omega
      have hk3 : k < n := by omega
      clear hk; have hk := hk3; clear hk3
      have Hx := Lib.hid hx; clear hx
      obtain ⟨β, hβ⟩ : ∃ t : Bool, t = (V xs / 2 ^ k % 2 == 1) := ⟨_, rfl⟩
      obtain ⟨γ, hγ⟩ : ∃ t : Bool, t = (V xs / 2 ^ (k + n) % 2 == 1) := ⟨_, rfl⟩
      have Hβ := Lib.hid hβ; have Hγ := Lib.hid hγ; clear hβ hγ
      go_enter Try.func9, Try.ntmps9
      go_wp2_with fail
      refine (LN.long1 (by simp) false HZ).mono ?_; rintro e w' ⟨rfl, rfl⟩
      go_wp2_with fail
      refine (LN.awake _).mono ?_; rintro e u1 ⟨rfl, hb⟩
      replace Sx : Rd u1 a0 cap0 (xs) := Rd.nx (by repeat (first | with_reducible exact Sx | with_reducible apply Rd.al | with_reducible apply Rd.dr | with_reducible apply Rd.dr1)) hb
      replace K : Kp w u1 := Kp.nx (by repeat (first | with_reducible exact K | with_reducible apply Kp.al | with_reducible apply Kp.dr | with_reducible apply Kp.dr1)) hb
      clear hb
      go_wp2_with fail
      rw [Hn.out]
      obtain ⟨jb, hjb⟩ : ∃ z : List Nat, z = L ((V xs) * 2 ^ n) := ⟨_, rfl⟩
      have Nb : Hid (V jb = (V xs) * 2 ^ n) := Lib.hid (by rw [hjb, V_L])
      have Hb := Lib.hid hjb; clear hjb
      go_wp2_with fail
      refine (NR.shl_ok (xs := xs) (zs := jb) (by repeat (first | with_reducible exact Sx | with_reducible apply Rd.al | with_reducible apply Rd.dr | with_reducible apply Rd.dr1)) rfl (by omega) n (by omega) (Hb.out.trans (congrArg L (by first | with_reducible rfl | simp only [LN.V_nil, LN.V_one])))).mono ?_; rintro e u2 ⟨pb, qb, rfl, ho, hb⟩
      replace Sx : Rd u2 a0 cap0 (xs) := Rd.nx (by repeat (first | with_reducible exact Sx | with_reducible apply Rd.al | with_reducible apply Rd.dr | with_reducible apply Rd.dr1)) hb
      replace K : Kp w u2 := Kp.nx (by repeat (first | with_reducible exact K | with_reducible apply Kp.al | with_reducible apply Kp.dr | with_reducible apply Kp.dr1)) hb
      have Sb : Rd u2 pb qb (jb) := ho.rd
      clear ho hb
      obtain ⟨jp, hjp⟩ : ∃ z : List Nat, z = L ((V [1]) * 2 ^ n) := ⟨_, rfl⟩
      have Np : Hid (V jp = (V [1]) * 2 ^ n) := Lib.hid (by rw [hjp, V_L])
      have Hp := Lib.hid hjp; clear hjp
      go_wp2_with fail
      refine (NR.shl_ok (xs := [1]) (zs := jp) (by repeat (first | exact Rd.litn [1] #[.int .u64 1] (ws_of _ (by decide +kernel)) rfl (by decide) (by simp) | with_reducible apply Rd.al)) rfl (by decide) n (by omega) (Hp.out.trans (congrArg L (by first | with_reducible rfl | simp only [LN.V_nil, LN.V_one])))).mono ?_; rintro e u3 ⟨pp, qp, rfl, ho, hb⟩
      replace Sx : Rd u3 a0 cap0 (xs) := Rd.nx (by repeat (first | with_reducible exact Sx | with_reducible apply Rd.al | with_reducible apply Rd.dr | with_reducible apply Rd.dr1)) hb
      replace Sb : Rd u3 pb qb (jb) := Rd.nx (by repeat (first | with_reducible exact Sb | with_reducible apply Rd.al | with_reducible apply Rd.dr | with_reducible apply Rd.dr1)) hb
      replace K : Kp w u3 := Kp.nx (by repeat (first | with_reducible exact K | with_reducible apply Kp.al | with_reducible apply Kp.dr | with_reducible apply Kp.dr1)) hb
      have Sp : Rd u3 pp qp (jp) := ho.rd
      clear ho hb
      obtain ⟨jc, hjc⟩ : ∃ z : List Nat, z = L (((V xs) * 2 ^ n) / 2 ^ n) := ⟨_, rfl⟩
      have Nc : Hid (V jc = ((V xs) * 2 ^ n) / 2 ^ n) := Lib.hid (by rw [hjc, V_L])
      have Hc := Lib.hid hjc; clear hjc
      go_wp2_with fail
      refine (NR.shr_ok (xs := jb) (zs := jc) (by repeat (first | with_reducible exact Sb | with_reducible apply Rd.al | with_reducible apply Rd.dr | with_reducible apply Rd.dr1)) rfl (Nat.le_trans (NR.len_of Hb.out (fx.shl _)) (by first | decide | omega)) n (by omega) (Hc.out.trans (congrArg L (by first | with_reducible rfl | simp only [Nb.out, LN.V_nil, LN.V_one])))).mono ?_; rintro e u4 ⟨pc, qc, rfl, ho, hb⟩
      replace Sx : Rd u4 a0 cap0 (xs) := Rd.nx (by repeat (first | with_reducible exact Sx | with_reducible apply Rd.al | with_reducible apply Rd.dr | with_reducible apply Rd.dr1)) hb
      replace Sb : Rd u4 pb qb (jb) := Rd.nx (by repeat (first | with_reducible exact Sb | with_reducible apply Rd.al | with_reducible apply Rd.dr | with_reducible apply Rd.dr1)) hb
      replace Sp : Rd u4 pp qp (jp) := Rd.nx (by repeat (first | with_reducible exact Sp | with_reducible apply Rd.al | with_reducible apply Rd.dr | with_reducible apply Rd.dr1)) hb
      replace K : Kp w u4 := Kp.nx (by repeat (first | with_reducible exact K | with_reducible apply Kp.al | with_reducible apply Kp.dr | with_reducible apply Kp.dr1)) hb
      have Sc : Rd u4 pc qc (jc) := ho.rd
      clear ho hb
      obtain ⟨jd, hjd⟩ : ∃ z : List Nat, z = L ((V xs) / 2 ^ n) := ⟨_, rfl⟩
      have Nd : Hid (V jd = (V xs) / 2 ^ n) := Lib.hid (by rw [hjd, V_L])
      have Hd := Lib.hid hjd; clear hjd
      go_wp2_with fail
      refine (NR.shr_ok (xs := xs) (zs := jd) (by repeat (first | with_reducible exact Sx | with_reducible apply Rd.al | with_reducible apply Rd.dr | with_reducible apply Rd.dr1)) rfl (by omega) n (by omega) (Hd.out.trans (congrArg L (by first | with_reducible rfl | simp only [LN.V_nil, LN.V_one])))).mono ?_; rintro e u5 ⟨pd, qd, rfl, ho, hb⟩
      replace Sx : Rd u5 a0 cap0 (xs) := Rd.nx (by repeat (first | with_reducible exact Sx | with_reducible apply Rd.al | with_reducible apply Rd.dr | with_reducible apply Rd.dr1)) hb
      replace Sb : Rd u5 pb qb (jb) := Rd.nx (by repeat (first | with_reducible exact Sb | with_reducible apply Rd.al | with_reducible apply Rd.dr | with_reducible apply Rd.dr1)) hb
      replace Sp : Rd u5 pp qp (jp) := Rd.nx (by repeat (first | with_reducible exact Sp | with_reducible apply Rd.al | with_reducible apply Rd.dr | with_reducible apply Rd.dr1)) hb
      replace Sc : Rd u5 pc qc (jc) := Rd.nx (by repeat (first | with_reducible exact Sc | with_reducible apply Rd.al | with_reducible apply Rd.dr | with_reducible apply Rd.dr1)) hb
      replace K : Kp w u5 := Kp.nx (by repeat (first | with_reducible exact K | with_reducible apply Kp.al | with_reducible apply Kp.dr | with_reducible apply Kp.dr1)) hb
      have Sd : Rd u5 pd qd (jd) := ho.rd
      clear ho hb
      obtain ⟨je, hje⟩ : ∃ z : List Nat, z = L (((V xs) / 2 ^ n) * 2 ^ n) := ⟨_, rfl⟩
      have Ne : Hid (V je = ((V xs) / 2 ^ n) * 2 ^ n) := Lib.hid (by rw [hje, V_L])
      have He := Lib.hid hje; clear hje
      go_wp2_with fail
      refine (NR.shl_ok (xs := jd) (zs := je) (by repeat (first | with_reducible exact Sd | with_reducible apply Rd.al | with_reducible apply Rd.dr | with_reducible apply Rd.dr1)) rfl (Nat.le_trans (NR.len_of Hd.out (fx.div _)) (by first | decide | omega)) n (by omega) (He.out.trans (congrArg L (by first | with_reducible rfl | simp only [Nd.out, LN.V_nil, LN.V_one])))).mono ?_; rintro e u6 ⟨pe, qe, rfl, ho, hb⟩
      replace Sx : Rd u6 a0 cap0 (xs) := Rd.nx (by repeat (first | with_reducible exact Sx | with_reducible apply Rd.al | with_reducible apply Rd.dr | with_reducible apply Rd.dr1)) hb
      replace Sb : Rd u6 pb qb (jb) := Rd.nx (by repeat (first | with_reducible exact Sb | with_reducible apply Rd.al | with_reducible apply Rd.dr | with_reducible apply Rd.dr1)) hb
      replace Sp : Rd u6 pp qp (jp) := Rd.nx (by repeat (first | with_reducible exact Sp | with_reducible apply Rd.al | with_reducible apply Rd.dr | with_reducible apply Rd.dr1)) hb
      replace Sc : Rd u6 pc qc (jc) := Rd.nx (by repeat (first | with_reducible exact Sc | with_reducible apply Rd.al | with_reducible apply Rd.dr | with_reducible apply Rd.dr1)) hb
      replace Sd : Rd u6 pd qd (jd) := Rd.nx (by repeat (first | with_reducible exact Sd | with_reducible apply Rd.al | with_reducible apply Rd.dr | with_reducible apply Rd.dr1)) hb
      replace K : Kp w u6 := Kp.nx (by repeat (first | with_reducible exact K | with_reducible apply Kp.al | with_reducible apply Kp.dr | with_reducible apply Kp.dr1)) hb
      have Se : Rd u6 pe qe (je) := ho.rd
      clear ho hb
      obtain ⟨jm, hjm⟩ : ∃ z : List Nat, z = L ((V xs) * ((V [1]) * 2 ^ n)) := ⟨_, rfl⟩
      have Nm : Hid (V jm = (V xs) * ((V [1]) * 2 ^ n)) := Lib.hid (by rw [hjm, V_L])
      have Hm := Lib.hid hjm; clear hjm
      go_wp2_with fail
      refine (NR.mul (xs := xs) (ys := jp) (zs := jm) (by repeat (first | with_reducible exact Sx | with_reducible apply Rd.al | with_reducible apply Rd.dr | with_reducible apply Rd.dr1)) (by repeat (first | with_reducible exact Sp | with_reducible apply Rd.al | with_reducible apply Rd.dr | with_reducible apply Rd.dr1)) rfl rfl (by omega) (Nat.le_trans (NR.len_of Hp.out ((show Fits 1 1 by unfold Fits; decide +kernel).shl _)) (by first | decide | omega))  (Hm.out.trans (congrArg L (by first | with_reducible rfl | simp only [Np.out, LN.V_nil, LN.V_one])))).mono ?_; rintro e u7 ⟨pm, qm, rfl, ho, hb⟩
      replace Sx : Rd u7 a0 cap0 (xs) := Rd.nx (by repeat (first | with_reducible exact Sx | with_reducible apply Rd.al | with_reducible apply Rd.dr | with_reducible apply Rd.dr1)) hb
      replace Sb : Rd u7 pb qb (jb) := Rd.nx (by repeat (first | with_reducible exact Sb | with_reducible apply Rd.al | with_reducible apply Rd.dr | with_reducible apply Rd.dr1)) hb
      replace Sp : Rd u7 pp qp (jp) := Rd.nx (by repeat (first | with_reducible exact Sp | with_reducible apply Rd.al | with_reducible apply Rd.dr | with_reducible apply Rd.dr1)) hb
      replace Sc : Rd u7 pc qc (jc) := Rd.nx (by repeat (first | with_reducible exact Sc | with_reducible apply Rd.al | with_reducible apply Rd.dr | with_reducible apply Rd.dr1)) hb
      replace Sd : Rd u7 pd qd (jd) := Rd.nx (by repeat (first | with_reducible exact Sd | with_reducible apply Rd.al | with_reducible apply Rd.dr | with_reducible apply Rd.dr1)) hb
      replace Se : Rd u7 pe qe (je) := Rd.nx (by repeat (first | with_reducible exact Se | with_reducible apply Rd.al | with_reducible apply Rd.dr | with_reducible apply Rd.dr1)) hb
      replace K : Kp w u7 := Kp.nx (by repeat (first | with_reducible exact K | with_reducible apply Kp.al | with_reducible apply Kp.dr | with_reducible apply Kp.dr1)) hb
      have Sm : Rd u7 pm qm (jm) := ho.rd
      clear ho hb
      go_wp2_with fail
      refine (NR.same_yes (xs := jb) (ys := jm) (by repeat (first | with_reducible exact Sb | with_reducible apply Rd.al | with_reducible apply Rd.dr | with_reducible apply Rd.dr1)) (by repeat (first | with_reducible exact Sm | with_reducible apply Rd.al | with_reducible apply Rd.dr | with_reducible apply Rd.dr1)) rfl rfl (Nat.le_trans (NR.len_of Hb.out (fx.shl _)) (by first | decide | omega)) (Hb.out.trans ((congrArg L (by rw [LN.V_one, Nat.one_mul])).trans Hm.out.symm))).mono ?_; rintro e u8 ⟨rfl, hb⟩
      replace Sx : Rd u8 a0 cap0 (xs) := Rd.nx (by repeat (first | with_reducible exact Sx | with_reducible apply Rd.al | with_reducible apply Rd.dr | with_reducible apply Rd.dr1)) hb
      replace Sb : Rd u8 pb qb (jb) := Rd.nx (by repeat (first | with_reducible exact Sb | with_reducible apply Rd.al | with_reducible apply Rd.dr | with_reducible apply Rd.dr1)) hb
      replace Sp : Rd u8 pp qp (jp) := Rd.nx (by repeat (first | with_reducible exact Sp | with_reducible apply Rd.al | with_reducible apply Rd.dr | with_reducible apply Rd.dr1)) hb
      replace Sc : Rd u8 pc qc (jc) := Rd.nx (by repeat (first | with_reducible exact Sc | with_reducible apply Rd.al | with_reducible apply Rd.dr | with_reducible apply Rd.dr1)) hb
      replace Sd : Rd u8 pd qd (jd) := Rd.nx (by repeat (first | with_reducible exact Sd | with_reducible apply Rd.al | with_reducible apply Rd.dr | with_reducible apply Rd.dr1)) hb
      replace Se : Rd u8 pe qe (je) := Rd.nx (by repeat (first | with_reducible exact Se | with_reducible apply Rd.al | with_reducible apply Rd.dr | with_reducible apply Rd.dr1)) hb
      replace Sm : Rd u8 pm qm (jm) := Rd.nx (by repeat (first | with_reducible exact Sm | with_reducible apply Rd.al | with_reducible apply Rd.dr | with_reducible apply Rd.dr1)) hb
      replace K : Kp w u8 := Kp.nx (by repeat (first | with_reducible exact K | with_reducible apply Kp.al | with_reducible apply Kp.dr | with_reducible apply Kp.dr1)) hb
      clear hb
      obtain ⟨jt, hjt⟩ : ∃ z : List Nat, z = L (V xs) := ⟨_, rfl⟩
      have Nt : Hid (V jt = V xs) := Lib.hid (by rw [hjt, V_L])
      have Ht := Lib.hid hjt; clear hjt
      go_wp2_with fail
      refine (NR.trim (xs := xs) (zs := jt) (by repeat (first | with_reducible exact Sx | with_reducible apply Rd.al | with_reducible apply Rd.dr | with_reducible apply Rd.dr1)) rfl (by omega)  (Ht.out.trans (congrArg L (by first | with_reducible rfl | simp only [LN.V_nil, LN.V_one])))).mono ?_; rintro e u9 ⟨pt, qt, rfl, ho, hb⟩
      replace Sx : Rd u9 a0 cap0 (xs) := Rd.nx (by repeat (first | with_reducible exact Sx | with_reducible apply Rd.al | with_reducible apply Rd.dr | with_reducible apply Rd.dr1)) hb
      replace Sb : Rd u9 pb qb (jb) := Rd.nx (by repeat (first | with_reducible exact Sb | with_reducible apply Rd.al | with_reducible apply Rd.dr | with_reducible apply Rd.dr1)) hb
      replace Sp : Rd u9 pp qp (jp) := Rd.nx (by repeat (first | with_reducible exact Sp | with_reducible apply Rd.al | with_reducible apply Rd.dr | with_reducible apply Rd.dr1)) hb
      replace Sc : Rd u9 pc qc (jc) := Rd.nx (by repeat (first | with_reducible exact Sc | with_reducible apply Rd.al | with_reducible apply Rd.dr | with_reducible apply Rd.dr1)) hb
      replace Sd : Rd u9 pd qd (jd) := Rd.nx (by repeat (first | with_reducible exact Sd | with_reducible apply Rd.al | with_reducible apply Rd.dr | with_reducible apply Rd.dr1)) hb
      replace Se : Rd u9 pe qe (je) := Rd.nx (by repeat (first | with_reducible exact Se | with_reducible apply Rd.al | with_reducible apply Rd.dr | with_reducible apply Rd.dr1)) hb
      replace Sm : Rd u9 pm qm (jm) := Rd.nx (by repeat (first | with_reducible exact Sm | with_reducible apply Rd.al | with_reducible apply Rd.dr | with_reducible apply Rd.dr1)) hb
      replace K : Kp w u9 := Kp.nx (by repeat (first | with_reducible exact K | with_reducible apply Kp.al | with_reducible apply Kp.dr | with_reducible apply Kp.dr1)) hb
      have St : Rd u9 pt qt (jt) := ho.rd
      clear ho hb
      go_wp2_with fail
      refine (NR.same_yes (xs := jc) (ys := jt) (by repeat (first | with_reducible exact Sc | with_reducible apply Rd.al | with_reducible apply Rd.dr | with_reducible apply Rd.dr1)) (by repeat (first | with_reducible exact St | with_reducible apply Rd.al | with_reducible apply Rd.dr | with_reducible apply Rd.dr1)) rfl rfl (Nat.le_trans (NR.len_of Hc.out ((fx.shl _).div _)) (by first | decide | omega)) (Hc.out.trans ((congrArg L (Nat.mul_div_cancel _ (Nat.two_pow_pos n))).trans Ht.out.symm))).mono ?_; rintro e u10 ⟨rfl, hb⟩
      replace Sx : Rd u10 a0 cap0 (xs) := Rd.nx (by repeat (first | with_reducible exact Sx | with_reducible apply Rd.al | with_reducible apply Rd.dr | with_reducible apply Rd.dr1)) hb
      replace Sb : Rd u10 pb qb (jb) := Rd.nx (by repeat (first | with_reducible exact Sb | with_reducible apply Rd.al | with_reducible apply Rd.dr | with_reducible apply Rd.dr1)) hb
      replace Sp : Rd u10 pp qp (jp) := Rd.nx (by repeat (first | with_reducible exact Sp | with_reducible apply Rd.al | with_reducible apply Rd.dr | with_reducible apply Rd.dr1)) hb
      replace Sc : Rd u10 pc qc (jc) := Rd.nx (by repeat (first | with_reducible exact Sc | with_reducible apply Rd.al | with_reducible apply Rd.dr | with_reducible apply Rd.dr1)) hb
      replace Sd : Rd u10 pd qd (jd) := Rd.nx (by repeat (first | with_reducible exact Sd | with_reducible apply Rd.al | with_reducible apply Rd.dr | with_reducible apply Rd.dr1)) hb
      replace Se : Rd u10 pe qe (je) := Rd.nx (by repeat (first | with_reducible exact Se | with_reducible apply Rd.al | with_reducible apply Rd.dr | with_reducible apply Rd.dr1)) hb
      replace Sm : Rd u10 pm qm (jm) := Rd.nx (by repeat (first | with_reducible exact Sm | with_reducible apply Rd.al | with_reducible apply Rd.dr | with_reducible apply Rd.dr1)) hb
      replace St : Rd u10 pt qt (jt) := Rd.nx (by repeat (first | with_reducible exact St | with_reducible apply Rd.al | with_reducible apply Rd.dr | with_reducible apply Rd.dr1)) hb
      replace K : Kp w u10 := Kp.nx (by repeat (first | with_reducible exact K | with_reducible apply Kp.al | with_reducible apply Kp.dr | with_reducible apply Kp.dr1)) hb
      clear hb
      clear Sp
      clear Sc
      clear Sm
      clear St
      go_wp2_with fail
      refine (NR.zero (xs := xs) (by repeat (first | with_reducible exact Sx | with_reducible apply Rd.al | with_reducible apply Rd.dr | with_reducible apply Rd.dr1)) rfl (by omega) true (by rw [Hx.out]; rfl)).mono ?_; rintro e w' ⟨rfl, rfl⟩
      go_wp2_with fail
      refine (NR.zero (xs := xs) (by repeat (first | with_reducible exact Sx | with_reducible apply Rd.al | with_reducible apply Rd.dr | with_reducible apply Rd.dr1)) rfl (by omega) true (by rw [Hx.out]; rfl)).mono ?_; rintro e w' ⟨rfl, rfl⟩
      go_wp2_with fail
      refine (NR.len (xs := jb) (by repeat (first | with_reducible exact Sb | with_reducible apply Rd.al | with_reducible apply Rd.dr | with_reducible apply Rd.dr1)) rfl (Nat.le_trans (NR.len_of Hb.out (fx.shl _)) (by first | decide | omega)) 0 (by rw [Nb.out, Hx.out, Nat.zero_mul]; rfl)).mono ?_; rintro e w' ⟨rfl, rfl⟩
      go_wp2_with fail
      rw [Hk.out]
      go_wp2_with fail
      refine (LN.bitI (xs := je) (by repeat (first | with_reducible exact Se | with_reducible apply Rd.al | with_reducible apply Rd.dr | with_reducible apply Rd.dr1)) rfl _ (k) (by first | rfl | (unfold wrap64; omega)) (by omega) false (by rw [Ne.out, LN.bit_up_lt _ _ _ hk]; rfl)).mono ?_; rintro e w' ⟨rfl, rfl⟩
      go_wp2_with fail
      refine (LN.bitI (xs := jb) (by repeat (first | with_reducible exact Sb | with_reducible apply Rd.al | with_reducible apply Rd.dr | with_reducible apply Rd.dr1)) rfl _ (k + n) (by first | rfl | (unfold wrap64; omega)) (by omega) β (by rw [Nb.out, LN.bit_up]; exact Hβ.out)).mono ?_; rintro e w' ⟨rfl, rfl⟩
      go_wp2_with fail
      refine (LN.bitI (xs := xs) (by repeat (first | with_reducible exact Sx | with_reducible apply Rd.al | with_reducible apply Rd.dr | with_reducible apply Rd.dr1)) rfl _ (k) (by first | rfl | (unfold wrap64; omega)) (by omega) β Hβ.out).mono ?_; rintro e w' ⟨rfl, rfl⟩
      go_wp2_with fail
      refine (LN.bitI (xs := jd) (by repeat (first | with_reducible exact Sd | with_reducible apply Rd.al | with_reducible apply Rd.dr | with_reducible apply Rd.dr1)) rfl _ (k) (by first | rfl | (unfold wrap64; omega)) (by omega) γ (by rw [Nd.out, LN.bit_down]; exact Hγ.out)).mono ?_; rintro e w' ⟨rfl, rfl⟩
      go_wp2_with fail
      refine (LN.bitI (xs := xs) (by repeat (first | with_reducible exact Sx | with_reducible apply Rd.al | with_reducible apply Rd.dr | with_reducible apply Rd.dr1)) rfl _ (k + n) (by first | rfl | (unfold wrap64; omega)) (by omega) γ Hγ.out).mono ?_; rintro e w' ⟨rfl, rfl⟩
      go_wp2_with fail
      go_ret
      exact ⟨rfl, Kp.below (by repeat (first | with_reducible exact K | with_reducible apply Kp.al | with_reducible apply Kp.dr | with_reducible apply Kp.dr1))⟩
  · by_cases hk : n ≤ k
    · have hk2 : (n : Int) ≤ (k : Int) := by omega
      obtain ⟨l, hl, bl⟩ : ∃ l : Nat, l = bitLen (V xs) ∧ l ≤ 1536 := ⟨_, rfl, LN.bitLen_fits fx⟩
      obtain ⟨z, hz⟩ : ∃ z : Nat, z = l + n := ⟨_, rfl⟩
      have ht1 : z ≤ l + n := by omega
      have ht2 : l + n ≤ z := by omega
      have Hz : Hid (z = bitLen (V xs * 2 ^ n)) := Lib.hid (by rw [LN.bitLen_up _ _ hx, ← hl]; exact hz)
      have Hl := Lib.hid hl; clear hl hz
      have Hx := Lib.hid hx; clear hx
      obtain ⟨β, hβ⟩ : ∃ t : Bool, t = (V xs / 2 ^ k % 2 == 1) := ⟨_, rfl⟩
      obtain ⟨γ, hγ⟩ : ∃ t : Bool, t = (V xs / 2 ^ (k + n) % 2 == 1) := ⟨_, rfl⟩
      have Hβ := Lib.hid hβ; have Hγ := Lib.hid hγ; clear hβ hγ
      go_enter Try.func9, Try.ntmps9
      go_wp2_with fail
      refine (LN.long1 (by simp) false HZ).mono ?_; rintro e w' ⟨rfl, rfl⟩
      go_wp2_with fail
      refine (LN.awake _).mono ?_; rintro e u1 ⟨rfl, hb⟩
      replace Sx : Rd u1 a0 cap0 (xs) := Rd.nx (by repeat (first | with_reducible exact Sx | with_reducible apply Rd.al | with_reducible apply Rd.dr | with_reducible apply Rd.dr1)) hb
      replace K : Kp w u1 := Kp.nx (by repeat (first | with_reducible exact K | with_reducible apply Kp.al | with_reducible apply Kp.dr | with_reducible apply Kp.dr1)) hb
      clear hb
      go_wp2_with fail
      rw [Hn.out]
      obtain ⟨jb, hjb⟩ : ∃ z : List Nat, z = L ((V xs) * 2 ^ n) := ⟨_, rfl⟩
      have Nb : Hid (V jb = (V xs) * 2 ^ n) := Lib.hid (by rw [hjb, V_L])
      have Hb := Lib.hid hjb; clear hjb
      go_wp2_with fail
      refine (NR.shl_ok (xs := xs) (zs := jb) (by repeat (first | with_reducible exact Sx | with_reducible apply Rd.al | with_reducible apply Rd.dr | with_reducible apply Rd.dr1)) rfl (by omega) n (by omega) (Hb.out.trans (congrArg L (by first | with_reducible rfl | simp only [LN.V_nil, LN.V_one])))).mono ?_; rintro e u2 ⟨pb, qb, rfl, ho, hb⟩
      replace Sx : Rd u2 a0 cap0 (xs) := Rd.nx (by repeat (first | with_reducible exact Sx | with_reducible apply Rd.al | with_reducible apply Rd.dr | with_reducible apply Rd.dr1)) hb
      replace K : Kp w u2 := Kp.nx (by repeat (first | with_reducible exact K | with_reducible apply Kp.al | with_reducible apply Kp.dr | with_reducible apply Kp.dr1)) hb
      have Sb : Rd u2 pb qb (jb) := ho.rd
      clear ho hb
      obtain ⟨jp, hjp⟩ : ∃ z : List Nat, z = L ((V [1]) * 2 ^ n) := ⟨_, rfl⟩
      have Np : Hid (V jp = (V [1]) * 2 ^ n) := Lib.hid (by rw [hjp, V_L])
      have Hp := Lib.hid hjp; clear hjp
      go_wp2_with fail
      refine (NR.shl_ok (xs := [1]) (zs := jp) (by repeat (first | exact Rd.litn [1] #[.int .u64 1] (ws_of _ (by decide +kernel)) rfl (by decide) (by simp) | with_reducible apply Rd.al)) rfl (by decide) n (by omega) (Hp.out.trans (congrArg L (by first | with_reducible rfl | simp only [LN.V_nil, LN.V_one])))).mono ?_; rintro e u3 ⟨pp, qp, rfl, ho, hb⟩
      replace Sx : Rd u3 a0 cap0 (xs) := Rd.nx (by repeat (first | with_reducible exact Sx | with_reducible apply Rd.al | with_reducible apply Rd.dr | with_reducible apply Rd.dr1)) hb
      replace Sb : Rd u3 pb qb (jb) := Rd.nx (by repeat (first | with_reducible exact Sb | with_reducible apply Rd.al | with_reducible apply Rd.dr | with_reducible apply Rd.dr1)) hb
      replace K : Kp w u3 := Kp.nx (by repeat (first | with_reducible exact K | with_reducible apply Kp.al | with_reducible apply Kp.dr | with_reducible apply Kp.dr1)) hb
      have Sp : Rd u3 pp qp (jp) := ho.rd
      clear ho hb
      obtain ⟨jc, hjc⟩ : ∃ z : List Nat, z = L (((V xs) * 2 ^ n) / 2 ^ n) := ⟨_, rfl⟩
      have Nc : Hid (V jc = ((V xs) * 2 ^ n) / 2 ^ n) := Lib.hid (by rw [hjc, V_L])
      have Hc := Lib.hid hjc; clear hjc
      go_wp2_with fail
      refine (NR.shr_ok (xs := jb) (zs := jc) (by repeat (first | with_reducible exact Sb | with_reducible apply Rd.al | with_reducible apply Rd.dr | with_reducible apply Rd.dr1)) rfl (Nat.le_trans (NR.len_of Hb.out (fx.shl _)) (by first | decide | omega)) n (by omega) (Hc.out.trans (congrArg L (by first | with_reducible rfl | simp only [Nb.out, LN.V_nil, LN.V_one])))).mono ?_; rintro e u4 ⟨pc, qc, rfl, ho, hb⟩
      replace Sx : Rd u4 a0 cap0 (xs) := Rd.nx (by repeat (first | with_reducible exact Sx | with_reducible apply Rd.al | with_reducible apply Rd.dr | with_reducible apply Rd.dr1)) hb
      replace Sb : Rd u4 pb qb (jb) := Rd.nx (by repeat (first | with_reducible exact Sb | with_reducible apply Rd.al | with_reducible apply Rd.dr | with_reducible apply Rd.dr1)) hb
      replace Sp : Rd u4 pp qp (jp) := Rd.nx (by repeat (first | with_reducible exact Sp | with_reducible apply Rd.al | with_reducible apply Rd.dr | with_reducible apply Rd.dr1)) hb
      replace K : Kp w u4 := Kp.nx (by repeat (first | with_reducible exact K | with_reducible apply Kp.al | with_reducible apply Kp.dr | with_reducible apply Kp.dr1)) hb
      have Sc : Rd u4 pc qc (jc) := ho.rd
      clear ho hb
      obtain ⟨jd, hjd⟩ : ∃ z : List Nat, z = L ((V xs) / 2 ^ n) := ⟨_, rfl⟩
      have Nd : Hid (V jd = (V xs) / 2 ^ n) := Lib.hid (by rw [hjd, V_L])
      have Hd := Lib.hid hjd; clear hjd
      go_wp2_with fail
      refine (NR.shr_ok (xs := xs) (zs := jd) (by repeat (first | with_reducible exact Sx | with_reducible apply Rd.al | with_reducible apply Rd.dr | with_reducible apply Rd.dr1)) rfl (by omega) n (by omega) (Hd.out.trans (congrArg L (by first | with_reducible rfl | simp only [LN.V_nil, LN.V_one])))).mono ?_; rintro e u5 ⟨pd, qd, rfl, ho, hb⟩
      replace Sx : Rd u5 a0 cap0 (xs) := Rd.nx (by repeat (first | with_reducible exact Sx | with_reducible apply Rd.al | with_reducible apply Rd.dr | with_reducible apply Rd.dr1)) hb
      replace Sb : Rd u5 pb qb (jb) := Rd.nx (by repeat (first | with_reducible exact Sb | with_reducible apply Rd.al | with_reducible apply Rd.dr | with_reducible apply Rd.dr1)) hb
      replace Sp : Rd u5 pp qp (jp) := Rd.nx (by repeat (first | with_reducible exact Sp | with_reducible apply Rd.al | with_reducible apply Rd.dr | with_reducible apply Rd.dr1)) hb
      replace Sc : Rd u5 pc qc (jc) := Rd.nx (by repeat (first | with_reducible exact Sc | with_reducible apply Rd.al | with_reducible apply Rd.dr | with_reducible apply Rd.dr1)) hb
      replace K : Kp w u5 := Kp.nx (by repeat (first | with_reducible exact K | with_reducible apply Kp.al | with_reducible apply Kp.dr | with_reducible apply Kp.dr1)) hb
      have Sd : Rd u5 pd qd (jd) := ho.rd
      clear ho hb
      obtain ⟨je, hje⟩ : ∃ z : List Nat, z = L (((V xs) / 2 ^ n) * 2 ^ n) := ⟨_, rfl⟩
      have Ne : Hid (V je = ((V xs) / 2 ^ n) * 2 ^ n) := Lib.hid (by rw [hje, V_L])
      have He := Lib.hid hje; clear hje
      go_wp2_with fail
      refine (NR.shl_ok (xs := jd) (zs := je) (by repeat (first | with_reducible exact Sd | with_reducible apply Rd.al | with_reducible apply Rd.dr | with_reducible apply Rd.dr1)) rfl (Nat.le_trans (NR.len_of Hd.out (fx.div _)) (by first | decide | omega)) n (by omega) (He.out.trans (congrArg L (by first | with_reducible rfl | simp only [Nd.out, LN.V_nil, LN.V_one])))).mono ?_; rintro e u6 ⟨pe, qe, rfl, ho, hb⟩
      replace Sx : Rd u6 a0 cap0 (xs) := Rd.nx (by repeat (first | with_reducible exact Sx | with_reducible apply Rd.al | with_reducible apply Rd.dr | with_reducible apply Rd.dr1)) hb
      replace Sb : Rd u6 pb qb (jb) := Rd.nx (by repeat (first | with_reducible exact Sb | with_reducible apply Rd.al | with_reducible apply Rd.dr | with_reducible apply Rd.dr1)) hb
      replace Sp : Rd u6 pp qp (jp) := Rd.nx (by repeat (first | with_reducible exact Sp | with_reducible apply Rd.al | with_reducible apply Rd.dr | with_reducible apply Rd.dr1)) hb
      replace Sc : Rd u6 pc qc (jc) := Rd.nx (by repeat (first | with_reducible exact Sc | with_reducible apply Rd.al | with_reducible apply Rd.dr | with_reducible apply Rd.dr1)) hb
      replace Sd : Rd u6 pd qd (jd) := Rd.nx (by repeat (first | with_reducible exact Sd | with_reducible apply Rd.al | with_reducible apply Rd.dr | with_reducible apply Rd.dr1)) hb
      replace K : Kp w u6 := Kp.nx (by repeat (first | with_reducible exact K | with_reducible apply Kp.al | with_reducible apply Kp.dr | with_reducible apply Kp.dr1)) hb
      have Se : Rd u6 pe qe (je) := ho.rd
      clear ho hb
      obtain ⟨jm, hjm⟩ : ∃ z : List Nat, z = L ((V xs) * ((V [1]) * 2 ^ n)) := ⟨_, rfl⟩
      have Nm : Hid (V jm = (V xs) * ((V [1]) * 2 ^ n)) := Lib.hid (by rw [hjm, V_L])
      have Hm := Lib.hid hjm; clear hjm
      go_wp2_with fail
      refine (NR.mul (xs := xs) (ys := jp) (zs := jm) (by repeat (first | with_reducible exact Sx | with_reducible apply Rd.al | with_reducible apply Rd.dr | with_reducible apply Rd.dr1)) (by repeat (first | with_reducible exact Sp | with_reducible apply Rd.al | with_reducible apply Rd.dr | with_reducible apply Rd.dr1)) rfl rfl (by omega) (Nat.le_trans (NR.len_of Hp.out ((show Fits 1 1 by unfold Fits; decide +kernel).shl _)) (by first | decide | omega))  (Hm.out.trans (congrArg L (by first | with_reducible rfl | simp only [Np.out, LN.V_nil, LN.V_one])))).mono ?_; rintro e u7 ⟨pm, qm, rfl, ho, hb⟩
      replace Sx : Rd u7 a0 cap0 (xs) := Rd.nx (by repeat (first | with_reducible exact Sx | with_reducible apply Rd.al | with_reducible apply Rd.dr | with_reducible apply Rd.dr1)) hb
      replace Sb : Rd u7 pb qb (jb) := Rd.nx (by repeat (first | with_reducible exact Sb | with_reducible apply Rd.al | with_reducible apply Rd.dr | with_reducible apply Rd.dr1)) hb
      replace Sp : Rd u7 pp qp (jp) := Rd.nx (by repeat (first | with_reducible exact Sp | with_reducible apply Rd.al | with_reducible apply Rd.dr | with_reducible apply Rd.dr1)) hb
      replace Sc : Rd u7 pc qc (jc) := Rd.nx (by repeat (first | with_reducible exact Sc | with_reducible apply Rd.al | with_reducible apply Rd.dr | with_reducible apply Rd.dr1)) hb
      replace Sd : Rd u7 pd qd (jd) := Rd.nx (by repeat (first | with_reducible exact Sd | with_reducible apply Rd.al | with_reducible apply Rd.dr | with_reducible apply Rd.dr1)) hb
      replace Se : Rd u7 pe qe (je) := Rd.nx (by repeat (first | with_reducible exact Se | with_reducible apply Rd.al | with_reducible apply Rd.dr | with_reducible apply Rd.dr1)) hb
      replace K : Kp w u7 := Kp.nx (by repeat (first | with_reducible exact K | with_reducible apply Kp.al | with_reducible apply Kp.dr | with_reducible apply Kp.dr1)) hb
      have Sm : Rd u7 pm qm (jm) := ho.rd
      clear ho hb
      go_wp2_with fail
      refine (NR.same_yes (xs := jb) (ys := jm) (by repeat (first | with_reducible exact Sb | with_reducible apply Rd.al | with_reducible apply Rd.dr | with_reducible apply Rd.dr1)) (by repeat (first | with_reducible exact Sm | with_reducible apply Rd.al | with_reducible apply Rd.dr | with_reducible apply Rd.dr1)) rfl rfl (Nat.le_trans (NR.len_of Hb.out (fx.shl _)) (by first | decide | omega)) (Hb.out.trans ((congrArg L (by rw [LN.V_one, Nat.one_mul])).trans Hm.out.symm))).mono ?_; rintro e u8 ⟨rfl, hb⟩
      replace Sx : Rd u8 a0 cap0 (xs) := Rd.nx (by repeat (first | with_reducible exact Sx | with_reducible apply Rd.al | with_reducible apply Rd.dr | with_reducible apply Rd.dr1)) hb
      replace Sb : Rd u8 pb qb (jb) := Rd.nx (by repeat (first | with_reducible exact Sb | with_reducible apply Rd.al | with_reducible apply Rd.dr | with_reducible apply Rd.dr1)) hb
      replace Sp : Rd u8 pp qp (jp) := Rd.nx (by repeat (first | with_reducible exact Sp | with_reducible apply Rd.al | with_reducible apply Rd.dr | with_reducible apply Rd.dr1)) hb
      replace Sc : Rd u8 pc qc (jc) := Rd.nx (by repeat (first | with_reducible exact Sc | with_reducible apply Rd.al | with_reducible apply Rd.dr | with_reducible apply Rd.dr1)) hb
      replace Sd : Rd u8 pd qd (jd) := Rd.nx (by repeat (first | with_reducible exact Sd | with_reducible apply Rd.al | with_reducible apply Rd.dr | with_reducible apply Rd.dr1)) hb
      replace Se : Rd u8 pe qe (je) := Rd.nx (by repeat (first | with_reducible exact Se | with_reducible apply Rd.al | with_reducible apply Rd.dr | with_reducible apply Rd.dr1)) hb
      replace Sm : Rd u8 pm qm (jm) := Rd.nx (by repeat (first | with_reducible exact Sm | with_reducible apply Rd.al | with_reducible apply Rd.dr | with_reducible apply Rd.dr1)) hb
      replace K : Kp w u8 := Kp.nx (by repeat (first | with_reducible exact K | with_reducible apply Kp.al | with_reducible apply Kp.dr | with_reducible apply Kp.dr1)) hb
      clear hb
      obtain ⟨jt, hjt⟩ : ∃ z : List Nat, z = L (V xs) := ⟨_, rfl⟩
      have Nt : Hid (V jt = V xs) := Lib.hid (by rw [hjt, V_L])
      have Ht := Lib.hid hjt; clear hjt
      go_wp2_with fail
      refine (NR.trim (xs := xs) (zs := jt) (by repeat (first | with_reducible exact Sx | with_reducible apply Rd.al | with_reducible apply Rd.dr | with_reducible apply Rd.dr1)) rfl (by omega)  (Ht.out.trans (congrArg L (by first | with_reducible rfl | simp only [LN.V_nil, LN.V_one])))).mono ?_; rintro e u9 ⟨pt, qt, rfl, ho, hb⟩
      replace Sx : Rd u9 a0 cap0 (xs) := Rd.nx (by repeat (first | with_reducible exact Sx | with_reducible apply Rd.al | with_reducible apply Rd.dr | with_reducible apply Rd.dr1)) hb
      replace Sb : Rd u9 pb qb (jb) := Rd.nx (by repeat (first | with_reducible exact Sb | with_reducible apply Rd.al | with_reducible apply Rd.dr | with_reducible apply Rd.dr1)) hb
      replace Sp : Rd u9 pp qp (jp) := Rd.nx (by repeat (first | with_reducible exact Sp | with_reducible apply Rd.al | with_reducible apply Rd.dr | with_reducible apply Rd.dr1)) hb
      replace Sc : Rd u9 pc qc (jc) := Rd.nx (by repeat (first | with_reducible exact Sc | with_reducible apply Rd.al | with_reducible apply Rd.dr | with_reducible apply Rd.dr1)) hb
      replace Sd : Rd u9 pd qd (jd) := Rd.nx (by repeat (first | with_reducible exact Sd | with_reducible apply Rd.al | with_reducible apply Rd.dr | with_reducible apply Rd.dr1)) hb
      replace Se : Rd u9 pe qe (je) := Rd.nx (by repeat (first | with_reducible exact Se | with_reducible apply Rd.al | with_reducible apply Rd.dr | with_reducible apply Rd.dr1)) hb
      replace Sm : Rd u9 pm qm (jm) := Rd.nx (by repeat (first | with_reducible exact Sm | with_reducible apply Rd.al | with_reducible apply Rd.dr | with_reducible apply Rd.dr1)) hb
      replace K : Kp w u9 := Kp.nx (by repeat (first | with_reducible exact K | with_reducible apply Kp.al | with_reducible apply Kp.dr | with_reducible apply Kp.dr1)) hb
      have St : Rd u9 pt qt (jt) := ho.rd
      clear ho hb
      go_wp2_with fail
      refine (NR.same_yes (xs := jc) (ys := jt) (by repeat (first | with_reducible exact Sc | with_reducible apply Rd.al | with_reducible apply Rd.dr | with_reducible apply Rd.dr1)) (by repeat (first | with_reducible exact St | with_reducible apply Rd.al | with_reducible apply Rd.dr | with_reducible apply Rd.dr1)) rfl rfl (Nat.le_trans (NR.len_of Hc.out ((fx.shl _).div _)) (by first | decide | omega)) (Hc.out.trans ((congrArg L (Nat.mul_div_cancel _ (Nat.two_pow_pos n))).trans Ht.out.symm))).mono ?_; rintro e u10 ⟨rfl, hb⟩
      replace Sx : Rd u10 a0 cap0 (xs) := Rd.nx (by repeat (first | with_reducible exact Sx | with_reducible apply Rd.al | with_reducible apply Rd.dr | with_reducible apply Rd.dr1)) hb
      replace Sb : Rd u10 pb qb (jb) := Rd.nx (by repeat (first | with_reducible exact Sb | with_reducible apply Rd.al | with_reducible apply Rd.dr | with_reducible apply Rd.dr1)) hb
      replace Sp : Rd u10 pp qp (jp) := Rd.nx (by repeat (first | with_reducible exact Sp | with_reducible apply Rd.al | with_reducible apply Rd.dr | with_reducible apply Rd.dr1)) hb
      replace Sc : Rd u10 pc qc (jc) := Rd.nx (by repeat (first | with_reducible exact Sc | with_reducible apply Rd.al | with_reducible apply Rd.dr | with_reducible apply Rd.dr1)) hb
      replace Sd : Rd u10 pd qd (jd) := Rd.nx (by repeat (first | with_reducible exact Sd | with_reducible apply Rd.al | with_reducible apply Rd.dr | with_reducible apply Rd.dr1)) hb
      replace Se : Rd u10 pe qe (je) := Rd.nx (by repeat (first | with_reducible exact Se | with_reducible apply Rd.al | with_reducible apply Rd.dr | with_reducible apply Rd.dr1)) hb
      replace Sm : Rd u10 pm qm (jm) := Rd.nx (by repeat (first | with_reducible exact Sm | with_reducible apply Rd.al | with_reducible apply Rd.dr | with_reducible apply Rd.dr1)) hb
      replace St : Rd u10 pt qt (jt) := Rd.nx (by repeat (first | with_reducible exact St | with_reducible apply Rd.al | with_reducible apply Rd.dr | with_reducible apply Rd.dr1)) hb
      replace K : Kp w u10 := Kp.nx (by repeat (first | with_reducible exact K | with_reducible apply Kp.al | with_reducible apply Kp.dr | with_reducible apply Kp.dr1)) hb
      clear hb
      clear Sp
      clear Sc
      clear Sm
      clear St
      go_wp2_with fail
      refine (NR.zero (xs := xs) (by repeat (first | with_reducible exact Sx | with_reducible apply Rd.al | with_reducible apply Rd.dr | with_reducible apply Rd.dr1)) rfl (by omega) false (by have := Hx.out; symm; rw [beq_eq_false_iff_ne]; exact this)).mono ?_; rintro e w' ⟨rfl, rfl⟩
      go_wp2_with fail
      refine (NR.len (xs := jb) (by repeat (first | with_reducible exact Sb | with_reducible apply Rd.al | with_reducible apply Rd.dr | with_reducible apply Rd.dr1)) rfl (Nat.le_trans (NR.len_of Hb.out (fx.shl _)) (by first | decide | omega)) z (by rw [Nb.out]; exact Hz.out)).mono ?_; rintro e w' ⟨rfl, rfl⟩
      go_wp2_with fail
      refine (NR.len (xs := xs) (by repeat (first | with_reducible exact Sx | with_reducible apply Rd.al | with_reducible apply Rd.dr | with_reducible apply Rd.dr1)) rfl (by omega) l Hl.out).mono ?_; rintro e w' ⟨rfl, rfl⟩
      go_wp2_with fail
      refine (NR.zero (xs := xs) (by repeat (first | with_reducible exact Sx | with_reducible apply Rd.al | with_reducible apply Rd.dr | with_reducible apply Rd.dr1)) rfl (by omega) false (by have := Hx.out; symm; rw [beq_eq_false_iff_ne]; exact this)).mono ?_; rintro e w' ⟨rfl, rfl⟩
      go_wp2_with fail
      rw [Hk.out]
      go_wp2_with fail
      refine (LN.bitI (xs := je) (by repeat (first | with_reducible exact Se | with_reducible apply Rd.al | with_reducible apply Rd.dr | with_reducible apply Rd.dr1)) rfl _ (k) (by first | rfl | (unfold wrap64; omega)) (by omega) β (by rw [Ne.out, LN.bit_back_ge _ _ _ hk]; exact Hβ.out)).mono ?_; rintro e w' ⟨rfl, rfl⟩
      go_wp2_with fail
      refine (LN.bitI (xs := xs) (by repeat (first | with_reducible exact Sx | with_reducible apply Rd.al | with_reducible apply Rd.dr | with_reducible apply Rd.dr1)) rfl _ (k) (by first | rfl | (unfold wrap64; omega)) (by omega) β Hβ.out).mono ?_; rintro e w' ⟨rfl, rfl⟩
      go_wp2_with fail
      refine (LN.bitI (xs := jb) (by repeat (first | with_reducible exact Sb | with_reducible apply Rd.al | with_reducible apply Rd.dr | with_reducible apply Rd.dr1)) rfl _ (k + n) (by first | rfl | (unfold wrap64; omega)) (by omega) β (by rw [Nb.out, LN.bit_up]; exact Hβ.out)).mono ?_; rintro e w' ⟨rfl, rfl⟩
      go_wp2_with fail
      refine (LN.bitI (xs := xs) (by repeat (first | with_reducible exact Sx | with_reducible apply Rd.al | with_reducible apply Rd.dr | with_reducible apply Rd.dr1)) rfl _ (k) (by first | rfl | (unfold wrap64; omega)) (by omega) β Hβ.out).mono ?_; rintro e w' ⟨rfl, rfl⟩
      go_wp2_with fail
      refine (LN.bitI (xs := jd) (by repeat (first | with_reducible exact Sd | with_reducible apply Rd.al | with_reducible apply Rd.dr | with_reducible apply Rd.dr1)) rfl _ (k) (by first | rfl | (unfold wrap64; omega)) (by omega) γ (by rw [Nd.out, LN.bit_down]; exact Hγ.out)).mono ?_; rintro e w' ⟨rfl, rfl⟩
      go_wp2_with fail
      refine (LN.bitI (xs := xs) (by repeat (first | with_reducible exact Sx | with_reducible apply Rd.al | with_reducible apply Rd.dr | with_reducible apply Rd.dr1)) rfl _ (k + n) (by first | rfl | (unfold wrap64; omega)) (by omega) γ Hγ.out).mono ?_; rintro e w' ⟨rfl, rfl⟩
      go_wp2_with fail
      go_ret
      exact ⟨rfl, Kp.below (by repeat (first | with_reducible exact K | with_reducible apply Kp.al | with_reducible apply Kp.dr | with_reducible apply Kp.dr1))⟩
    · have hk2 : (k : Int) < (n : Int) := by omega
      have hk3 : k < n := by omega
      clear hk; have hk := hk3; clear hk3
      obtain ⟨l, hl, bl⟩ : ∃ l : Nat, l = bitLen (V xs) ∧ l ≤ 1536 := ⟨_, rfl, LN.bitLen_fits fx⟩
      obtain ⟨z, hz⟩ : ∃ z : Nat, z = l + n := ⟨_, rfl⟩
      have ht1 : z ≤ l + n := by omega
      have ht2 : l + n ≤ z := by omega
      have Hz : Hid (z = bitLen (V xs * 2 ^ n)) := Lib.hid (by rw [LN.bitLen_up _ _ hx, ← hl]; exact hz)
      have Hl := Lib.hid hl; clear hl hz
      have Hx := Lib.hid hx; clear hx
      obtain ⟨β, hβ⟩ : ∃ t : Bool, t = (V xs / 2 ^ k % 2 == 1) := ⟨_, rfl⟩
      obtain ⟨γ, hγ⟩ : ∃ t : Bool, t = (V xs / 2 ^ (k + n) % 2 == 1) := ⟨_, rfl⟩
      have Hβ := Lib.hid hβ; have Hγ := Lib.hid hγ; clear hβ hγ
      go_enter Try.func9, Try.ntmps9
      go_wp2_with fail
      refine (LN.long1 (by simp) false HZ).mono ?_; rintro e w' ⟨rfl, rfl⟩
      go_wp2_with fail
      refine (LN.awake _).mono ?_; rintro e u1 ⟨rfl, hb⟩
      replace Sx : Rd u1 a0 cap0 (xs) := Rd.nx (by repeat (first | with_reducible exact Sx | with_reducible apply Rd.al | with_reducible apply Rd.dr | with_reducible apply Rd.dr1)) hb
      replace K : Kp w u1 := Kp.nx (by repeat (first | with_reducible exact K | with_reducible apply Kp.al | with_reducible apply Kp.dr | with_reducible apply Kp.dr1)) hb
      clear hb
      go_wp2_with fail
      rw [Hn.out]
      obtain ⟨jb, hjb⟩ : ∃ z : List Nat, z = L ((V xs) * 2 ^ n) := ⟨_, rfl⟩
      have Nb : Hid (V jb = (V xs) * 2 ^ n) := Lib.hid (by rw [hjb, V_L])
      have Hb := Lib.hid hjb; clear hjb
      go_wp2_with fail
      refine (NR.shl_ok (xs := xs) (zs := jb) (by repeat (first | with_reducible exact Sx | with_reducible apply Rd.al | with_reducible apply Rd.dr | with_reducible apply Rd.dr1)) rfl (by omega) n (by omega) (Hb.out.trans (congrArg L (by first | with_reducible rfl | simp only [LN.V_nil, LN.V_one])))).mono ?_; rintro e u2 ⟨pb, qb, rfl, ho, hb⟩
      replace Sx : Rd u2 a0 cap0 (xs) := Rd.nx (by repeat (first | with_reducible exact Sx | with_reducible apply Rd.al | with_reducible apply Rd.dr | with_reducible apply Rd.dr1)) hb
      replace K : Kp w u2 := Kp.nx (by repeat (first | with_reducible exact K | with_reducible apply Kp.al | with_reducible apply Kp.dr | with_reducible apply Kp.dr1)) hb
      have Sb : Rd u2 pb qb (jb) := ho.rd
      clear ho hb
      obtain ⟨jp, hjp⟩ : ∃ z : List Nat, z = L ((V [1]) * 2 ^ n) := ⟨_, rfl⟩
      have Np : Hid (V jp = (V [1]) * 2 ^ n) := Lib.hid (by rw [hjp, V_L])
      have Hp := Lib.hid hjp; clear hjp
      go_wp2_with fail
      refine (NR.shl_ok (xs := [1]) (zs := jp) (by repeat (first | exact Rd.litn [1] #[.int .u64 1] (ws_of _ (by decide +kernel)) rfl (by decide) (by simp) | with_reducible apply Rd.al)) rfl (by decide) n (by omega) (Hp.out.trans (congrArg L (by first | with_reducible rfl | simp only [LN.V_nil, LN.V_one])))).mono ?_; rintro e u3 ⟨pp, qp, rfl, ho, hb⟩
      replace Sx : Rd u3 a0 cap0 (xs) := Rd.nx (by repeat (first | with_reducible exact Sx | with_reducible apply Rd.al | with_reducible apply Rd.dr | with_reducible apply Rd.dr1)) hb
      replace Sb : Rd u3 pb qb (jb) := Rd.nx (by repeat (first | with_reducible exact Sb | with_reducible apply Rd.al | with_reducible apply Rd.dr | with_reducible apply Rd.dr1)) hb
      replace K : Kp w u3 := Kp.nx (by repeat (first | with_reducible exact K | with_reducible apply Kp.al | with_reducible apply Kp.dr | with_reducible apply Kp.dr1)) hb
      have Sp : Rd u3 pp qp (jp) := ho.rd
      clear ho hb
      obtain ⟨jc, hjc⟩ : ∃ z : List Nat, z = L (((V xs) * 2 ^ n) / 2 ^ n) := ⟨_, rfl⟩
      have Nc : Hid (V jc = ((V xs) * 2 ^ n) / 2 ^ n) := Lib.hid (by rw [hjc, V_L])
      have Hc := Lib.hid hjc; clear hjc
      go_wp2_with fail
      refine (NR.shr_ok (xs := jb) (zs := jc) (by repeat (first | with_reducible exact Sb | with_reducible apply Rd.al | with_reducible apply Rd.dr | with_reducible apply Rd.dr1)) rfl (Nat.le_trans (NR.len_of Hb.out (fx.shl _)) (by first | decide | omega)) n (by omega) (Hc.out.trans (congrArg L (by first | with_reducible rfl | simp only [Nb.out, LN.V_nil, LN.V_one])))).mono ?_; rintro e u4 ⟨pc, qc, rfl, ho, hb⟩
      replace Sx : Rd u4 a0 cap0 (xs) := Rd.nx (by repeat (first | with_reducible exact Sx | with_reducible apply Rd.al | with_reducible apply Rd.dr | with_reducible apply Rd.dr1)) hb
      replace Sb : Rd u4 pb qb (jb) := Rd.nx (by repeat (first | with_reducible exact Sb | with_reducible apply Rd.al | with_reducible apply Rd.dr | with_reducible apply Rd.dr1)) hb
      replace Sp : Rd u4 pp qp (jp) := Rd.nx (by repeat (first | with_reducible exact Sp | with_reducible apply Rd.al | with_reducible apply Rd.dr | with_reducible apply Rd.dr1)) hb
      replace K : Kp w u4 := Kp.nx (by repeat (first | with_reducible exact K | with_reducible apply Kp.al | with_reducible apply Kp.dr | with_reducible apply Kp.dr1)) hb
      have Sc : Rd u4 pc qc (jc) := ho.rd
      clear ho hb
      obtain ⟨jd, hjd⟩ : ∃ z : List Nat, z = L ((V xs) / 2 ^ n) := ⟨_, rfl⟩
      have Nd : Hid (V jd = (V xs) / 2 ^ n) := Lib.hid (by rw [hjd, V_L])
      have Hd := Lib.hid hjd; clear hjd
      go_wp2_with fail
      refine (NR.shr_ok (xs := xs) (zs := jd) (by repeat (first | with_reducible exact Sx | with_reducible apply Rd.al | with_reducible apply Rd.dr | with_reducible apply Rd.dr1)) rfl (by omega) n (by omega) (Hd.out.trans (congrArg L (by first | with_reducible rfl | simp only [LN.V_nil, LN.V_one])))).mono ?_; rintro e u5 ⟨pd, qd, rfl, ho, hb⟩
      replace Sx : Rd u5 a0 cap0 (xs) := Rd.nx (by repeat (first | with_reducible exact Sx | with_reducible apply Rd.al | with_reducible apply Rd.dr | with_reducible apply Rd.dr1)) hb
      replace Sb : Rd u5 pb qb (jb) := Rd.nx (by repeat (first | with_reducible exact Sb | with_reducible apply Rd.al | with_reducible apply Rd.dr | with_reducible apply Rd.dr1)) hb
      replace Sp : Rd u5 pp qp (jp) := Rd.nx (by repeat (first | with_reducible exact Sp | with_reducible apply Rd.al | with_reducible apply Rd.dr | with_reducible apply Rd.dr1)) hb
      replace Sc : Rd u5 pc qc (jc) := Rd.nx (by repeat (first | with_reducible exact Sc | with_reducible apply Rd.al | with_reducible apply Rd.dr | with_reducible apply Rd.dr1)) hb
      replace K : Kp w u5 := Kp.nx (by repeat (first | with_reducible exact K | with_reducible apply Kp.al | with_reducible apply Kp.dr | with_reducible apply Kp.dr1)) hb
      have Sd : Rd u5 pd qd (jd) := ho.rd
      clear ho hb
      obtain ⟨je, hje⟩ : ∃ z : List Nat, z = L (((V xs) / 2 ^ n) * 2 ^ n) := ⟨_, rfl⟩
      have Ne : Hid (V je = ((V xs) / 2 ^ n) * 2 ^ n) := Lib.hid (by rw [hje, V_L])
      have He := Lib.hid hje; clear hje
      go_wp2_with fail
      refine (NR.shl_ok (xs := jd) (zs := je) (by repeat (first | with_reducible exact Sd | with_reducible apply Rd.al | with_reducible apply Rd.dr | with_reducible apply Rd.dr1)) rfl (Nat.le_trans (NR.len_of Hd.out (fx.div _)) (by first | decide | omega)) n (by omega) (He.out.trans (congrArg L (by first | with_reducible rfl | simp only [Nd.out, LN.V_nil, LN.V_one])))).mono ?_; rintro e u6 ⟨pe, qe, rfl, ho, hb⟩
      replace Sx : Rd u6 a0 cap0 (xs) := Rd.nx (by repeat (first | with_reducible exact Sx | with_reducible apply Rd.al | with_reducible apply Rd.dr | with_reducible apply Rd.dr1)) hb
      replace Sb : Rd u6 pb qb (jb) := Rd.nx (by repeat (first | with_reducible exact Sb | with_reducible apply Rd.al | with_reducible apply Rd.dr | with_reducible apply Rd.dr1)) hb
      replace Sp : Rd u6 pp qp (jp) := Rd.nx (by repeat (first | with_reducible exact Sp | with_reducible apply Rd.al | with_reducible apply Rd.dr | with_reducible apply Rd.dr1)) hb
      replace Sc : Rd u6 pc qc (jc) := Rd.nx (by repeat (first | with_reducible exact Sc | with_reducible apply Rd.al | with_reducible apply Rd.dr | with_reducible apply Rd.dr1)) hb
      replace Sd : Rd u6 pd qd (jd) := Rd.nx (by repeat (first | with_reducible exact Sd | with_reducible apply Rd.al | with_reducible apply Rd.dr | with_reducible apply Rd.dr1)) hb
      replace K : Kp w u6 := Kp.nx (by repeat (first | with_reducible exact K | with_reducible apply Kp.al | with_reducible apply Kp.dr | with_reducible apply Kp.dr1)) hb
      have Se : Rd u6 pe qe (je) := ho.rd
      clear ho hb
      obtain ⟨jm, hjm⟩ : ∃ z : List Nat, z = L ((V xs) * ((V [1]) * 2 ^ n)) := ⟨_, rfl⟩
      have Nm : Hid (V jm = (V xs) * ((V [1]) * 2 ^ n)) := Lib.hid (by rw [hjm, V_L])
      have Hm := Lib.hid hjm; clear hjm
      go_wp2_with fail
      refine (NR.mul (xs := xs) (ys := jp) (zs := jm) (by repeat (first | with_reducible exact Sx | with_reducible apply Rd.al | with_reducible apply Rd.dr | with_reducible apply Rd.dr1)) (by repeat (first | with_reducible exact Sp | with_reducible apply Rd.al | with_reducible apply Rd.dr | with_reducible apply Rd.dr1)) rfl rfl (by omega) (Nat.le_trans (NR.len_of Hp.out ((show Fits 1 1 by unfold Fits; decide +kernel).shl _)) (by first | decide | omega))  (Hm.out.trans (congrArg L (by first | with_reducible rfl | simp only [Np.out, LN.V_nil, LN.V_one])))).mono ?_; rintro e u7 ⟨pm, qm, rfl, ho, hb⟩
      replace Sx : Rd u7 a0 cap0 (xs) := Rd.nx (by repeat (first | with_reducible exact Sx | with_reducible apply Rd.al | with_reducible apply Rd.dr | with_reducible apply Rd.dr1)) hb
      replace Sb : Rd u7 pb qb (jb) := Rd.nx (by repeat (first | with_reducible exact Sb | with_reducible apply Rd.al | with_reducible apply Rd.dr | with_reducible apply Rd.dr1)) hb
      replace Sp : Rd u7 pp qp (jp) := Rd.nx (by repeat (first | with_reducible exact Sp | with_reducible apply Rd.al | with_reducible apply Rd.dr | with_reducible apply Rd.dr1)) hb
      replace Sc : Rd u7 pc qc (jc) := Rd.nx (by repeat (first | with_reducible exact Sc | with_reducible apply Rd.al | with_reducible apply Rd.dr | with_reducible apply Rd.dr1)) hb
      replace Sd : Rd u7 pd qd (jd) := Rd.nx (by repeat (first | with_reducible exact Sd | with_reducible apply Rd.al | with_reducible apply Rd.dr | with_reducible apply Rd.dr1)) hb
      replace Se : Rd u7 pe qe (je) := Rd.nx (by repeat (first | with_reducible exact Se | with_reducible apply Rd.al | with_reducible apply Rd.dr | with_reducible apply Rd.dr1)) hb
      replace K : Kp w u7 := Kp.nx (by repeat (first | with_reducible exact K | with_reducible apply Kp.al | with_reducible apply Kp.dr | with_reducible apply Kp.dr1)) hb
      have Sm : Rd u7 pm qm (jm) := ho.rd
      clear ho hb
      go_wp2_with fail
      refine (NR.same_yes (xs := jb) (ys := jm) (by repeat (first | with_reducible exact Sb | with_reducible apply Rd.al | with_reducible apply Rd.dr | with_reducible apply Rd.dr1)) (by repeat (first | with_reducible exact Sm | with_reducible apply Rd.al | with_reducible apply Rd.dr | with_reducible apply Rd.dr1)) rfl rfl (Nat.le_trans (NR.len_of Hb.out (fx.shl _)) (by first | decide | omega)) (Hb.out.trans ((congrArg L (by rw [LN.V_one, Nat.one_mul])).trans Hm.out.symm))).mono ?_; rintro e u8 ⟨rfl, hb⟩
      replace Sx : Rd u8 a0 cap0 (xs) := Rd.nx (by repeat (first | with_reducible exact Sx | with_reducible apply Rd.al | with_reducible apply Rd.dr | with_reducible apply Rd.dr1)) hb
      replace Sb : Rd u8 pb qb (jb) := Rd.nx (by repeat (first | with_reducible exact Sb | with_reducible apply Rd.al | with_reducible apply Rd.dr | with_reducible apply Rd.dr1)) hb
      replace Sp : Rd u8 pp qp (jp) := Rd.nx (by repeat (first | with_reducible exact Sp | with_reducible apply Rd.al | with_reducible apply Rd.dr | with_reducible apply Rd.dr1)) hb
      replace Sc : Rd u8 pc qc (jc) := Rd.nx (by repeat (first | with_reducible exact Sc | with_reducible apply Rd.al | with_reducible apply Rd.dr | with_reducible apply Rd.dr1)) hb
      replace Sd : Rd u8 pd qd (jd) := Rd.nx (by repeat (first | with_reducible exact Sd | with_reducible apply Rd.al | with_reducible apply Rd.dr | with_reducible apply Rd.dr1)) hb
      replace Se : Rd u8 pe qe (je) := Rd.nx (by repeat (first | with_reducible exact Se | with_reducible apply Rd.al | with_reducible apply Rd.dr | with_reducible apply Rd.dr1)) hb
      replace Sm : Rd u8 pm qm (jm) := Rd.nx (by repeat (first | with_reducible exact Sm | with_reducible apply Rd.al | with_reducible apply Rd.dr | with_reducible apply Rd.dr1)) hb
      replace K : Kp w u8 := Kp.nx (by repeat (first | with_reducible exact K | with_reducible apply Kp.al | with_reducible apply Kp.dr | with_reducible apply Kp.dr1)) hb
      clear hb
      obtain ⟨jt, hjt⟩ : ∃ z : List Nat, z = L (V xs) := ⟨_, rfl⟩
      have Nt : Hid (V jt = V xs) := Lib.hid (by rw [hjt, V_L])
      have Ht := Lib.hid hjt; clear hjt
      go_wp2_with fail
      refine (NR.trim (xs := xs) (zs := jt) (by repeat (first | with_reducible exact Sx | with_reducible apply Rd.al | with_reducible apply Rd.dr | with_reducible apply Rd.dr1)) rfl (by omega)  (Ht.out.trans (congrArg L (by first | with_reducible rfl | simp only [LN.V_nil, LN.V_one])))).mono ?_; rintro e u9 ⟨pt, qt, rfl, ho, hb⟩
      replace Sx : Rd u9 a0 cap0 (xs) := Rd.nx (by repeat (first | with_reducible exact Sx | with_reducible apply Rd.al | with_reducible apply Rd.dr | with_reducible apply Rd.dr1)) hb
      replace Sb : Rd u9 pb qb (jb) := Rd.nx (by repeat (first | with_reducible exact Sb | with_reducible apply Rd.al | with_reducible apply Rd.dr | with_reducible apply Rd.dr1)) hb
      replace Sp : Rd u9 pp qp (jp) := Rd.nx (by repeat (first | with_reducible exact Sp | with_reducible apply Rd.al | with_reducible apply Rd.dr | with_reducible apply Rd.dr1)) hb
      replace Sc : Rd u9 pc qc (jc) := Rd.nx (by repeat (first | with_reducible exact Sc | with_reducible apply Rd.al | with_reducible apply Rd.dr | with_reducible apply Rd.dr1)) hb
      replace Sd : Rd u9 pd qd (jd) := Rd.nx (by repeat (first | with_reducible exact Sd | with_reducible apply Rd.al | with_reducible apply Rd.dr | with_reducible apply Rd.dr1)) hb
      replace Se : Rd u9 pe qe (je) := Rd.nx (by repeat (first | with_reducible exact Se | with_reducible apply Rd.al | with_reducible apply Rd.dr | with_reducible apply Rd.dr1)) hb
      replace Sm : Rd u9 pm qm (jm) := Rd.nx (by repeat (first | with_reducible exact Sm | with_reducible apply Rd.al | with_reducible apply Rd.dr | with_reducible apply Rd.dr1)) hb
      replace K : Kp w u9 := Kp.nx (by repeat (first | with_reducible exact K | with_reducible apply Kp.al | with_reducible apply Kp.dr | with_reducible apply Kp.dr1)) hb
      have St : Rd u9 pt qt (jt) := ho.rd
      clear ho hb
      go_wp2_with fail
      refine (NR.same_yes (xs := jc) (ys := jt) (by repeat (first | with_reducible exact Sc | with_reducible apply Rd.al | with_reducible apply Rd.dr | with_reducible apply Rd.dr1)) (by repeat (first | with_reducible exact St | with_reducible apply Rd.al | with_reducible apply Rd.dr | with_reducible apply Rd.dr1)) rfl rfl (Nat.le_trans (NR.len_of Hc.out ((fx.shl _).div _)) (by first | decide | omega)) (Hc.out.trans ((congrArg L (Nat.mul_div_cancel _ (Nat.two_pow_pos n))).trans Ht.out.symm))).mono ?_; rintro e u10 ⟨rfl, hb⟩
      replace Sx : Rd u10 a0 cap0 (xs) := Rd.nx (by repeat (first | with_reducible exact Sx | with_reducible apply Rd.al | with_reducible apply Rd.dr | with_reducible apply Rd.dr1)) hb
      replace Sb : Rd u10 pb qb (jb) := Rd.nx (by repeat (first | with_reducible exact Sb | with_reducible apply Rd.al | with_reducible apply Rd.dr | with_reducible apply Rd.dr1)) hb
      replace Sp : Rd u10 pp qp (jp) := Rd.nx (by repeat (first | with_reducible exact Sp | with_reducible apply Rd.al | with_reducible apply Rd.dr | with_reducible apply Rd.dr1)) hb
      replace Sc : Rd u10 pc qc (jc) := Rd.nx (by repeat (first | with_reducible exact Sc | with_reducible apply Rd.al | with_reducible apply Rd.dr | with_reducible apply Rd.dr1)) hb
      replace Sd : Rd u10 pd qd (jd) := Rd.nx (by repeat (first | with_reducible exact Sd | with_reducible apply Rd.al | with_reducible apply Rd.dr | with_reducible apply Rd.dr1)) hb
      replace Se : Rd u10 pe qe (je) := Rd.nx (by repeat (first | with_reducible exact Se | with_reducible apply Rd.al | with_reducible apply Rd.dr | with_reducible apply Rd.dr1)) hb
      replace Sm : Rd u10 pm qm (jm) := Rd.nx (by repeat (first | with_reducible exact Sm | with_reducible apply Rd.al | with_reducible apply Rd.dr | with_reducible apply Rd.dr1)) hb
      replace St : Rd u10 pt qt (jt) := Rd.nx (by repeat (first | with_reducible exact St | with_reducible apply Rd.al | with_reducible apply Rd.dr | with_reducible apply Rd.dr1)) hb
      replace K : Kp w u10 := Kp.nx (by repeat (first | with_reducible exact K | with_reducible apply Kp.al | with_reducible apply Kp.dr | with_reducible apply Kp.dr1)) hb
      clear hb
      clear Sp
      clear Sc
      clear Sm
      clear St
      go_wp2_with fail
      refine (NR.zero (xs := xs) (by repeat (first | with_reducible exact Sx | with_reducible apply Rd.al | with_reducible apply Rd.dr | with_reducible apply Rd.dr1)) rfl (by omega) false (by have := Hx.out; symm; rw [beq_eq_false_iff_ne]; exact this)).mono ?_; rintro e w' ⟨rfl, rfl⟩
      go_wp2_with fail
      refine (NR.len (xs := jb) (by repeat (first | with_reducible exact Sb | with_reducible apply Rd.al | with_reducible apply Rd.dr | with_reducible apply Rd.dr1)) rfl (Nat.le_trans (NR.len_of Hb.out (fx.shl _)) (by first | decide | omega)) z (by rw [Nb.out]; exact Hz.out)).mono ?_; rintro e w' ⟨rfl, rfl⟩
      go_wp2_with fail
      refine (NR.len (xs := xs) (by repeat (first | with_reducible exact Sx | with_reducible apply Rd.al | with_reducible apply Rd.dr | with_reducible apply Rd.dr1)) rfl (by omega) l Hl.out).mono ?_; rintro e w' ⟨rfl, rfl⟩
      go_wp2_with fail
      refine (NR.zero (xs := xs) (by repeat (first | with_reducible exact Sx | with_reducible apply Rd.al | with_reducible apply Rd.dr | with_reducible apply Rd.dr1)) rfl (by omega) false (by have := Hx.out; symm; rw [beq_eq_false_iff_ne]; exact this)).mono ?_; rintro e w' ⟨rfl, rfl⟩
      go_wp2_with fail
      rw [Hk.out]
      go_wp2_with fail
      refine (LN.bitI (xs := je) (by repeat (first | with_reducible exact Se | with_reducible apply Rd.al | with_reducible apply Rd.dr | with_reducible apply Rd.dr1)) rfl _ (k) (by first | rfl | (unfold wrap64; omega)) (by omega) false (by rw [Ne.out, LN.bit_up_lt _ _ _ hk]; rfl)).mono ?_; rintro e w' ⟨rfl, rfl⟩
      go_wp2_with fail
      refine (LN.bitI (xs := jb) (by repeat (first | with_reducible exact Sb | with_reducible apply Rd.al | with_reducible apply Rd.dr | with_reducible apply Rd.dr1)) rfl _ (k + n) (by first | rfl | (unfold wrap64; omega)) (by omega) β (by rw [Nb.out, LN.bit_up]; exact Hβ.out)).mono ?_; rintro e w' ⟨rfl, rfl⟩
      go_wp2_with fail
      refine (LN.bitI (xs := xs) (by repeat (first | with_reducible exact Sx | with_reducible apply Rd.al | with_reducible apply Rd.dr | with_reducible apply Rd.dr1)) rfl _ (k) (by first | rfl | (unfold wrap64; omega)) (by omega) β Hβ.out).mono ?_; rintro e w' ⟨rfl, rfl⟩
      go_wp2_with fail
      refine (LN.bitI (xs := jd) (by repeat (first | with_reducible exact Sd | with_reducible apply Rd.al | with_reducible apply Rd.dr | with_reducible apply Rd.dr1)) rfl _ (k) (by first | rfl | (unfold wrap64; omega)) (by omega) γ (by rw [Nd.out, LN.bit_down]; exact Hγ.out)).mono ?_; rintro e w' ⟨rfl, rfl⟩
      go_wp2_with fail
      refine (LN.bitI (xs := xs) (by repeat (first | with_reducible exact Sx | with_reducible apply Rd.al | with_reducible apply Rd.dr | with_reducible apply Rd.dr1)) rfl _ (k + n) (by first | rfl | (unfold wrap64; omega)) (by omega) γ Hγ.out).mono ?_; rintro e w' ⟨rfl, rfl⟩
      go_wp2_with fail
      go_ret
      exact ⟨rfl, Kp.below (by repeat (first | with_reducible exact K | with_reducible apply Kp.al | with_reducible apply Kp.dr | with_reducible apply Kp.dr1))⟩

/-! ### THE ROW's STEP: WRITTEN OUT: LEAVE IT -/
set_option maxRecDepth 100000 in
theorem lifted (os : Os) (started : os.Started) (H : Type) (enc : TypeId × Value → H) :
    ReturnsInHanded {} Try.checked os 9 .any (Rows.natShiftsSpec.pre6 enc Try.prog Try.f9 Rows.natShiftsRow.domain false) (Rows.natShiftsSpec.post enc Try.prog Try.f9 false true false false) := by
  refine returnsInHanded_of_change (C := Try.checked) own started (by kernel_rfl) Try.func9
    (ChangeSpec.witness6 (enc := enc) (C := Try.checked) false ⟨#[], #[.slice none 0 0, .int .u16 0, .int .u16 0], []⟩ 8 (by kernel_rfl) (by kernel_rfl) (by kernel_rfl) (by kernel_rfl)) ?_
  intro W base args ds gs before hval0 hW hcnd _
  have hval : ∀ (j : Nat) t v, Try.f9.params[j]? = some t → args[j]? = some v → Value.okWide Try.prog W .any base t v := hval0
  have hW' := hW
  obtain ⟨p, q, hA0, hV, rfl, hfz, hnd⟩ := hW
  have hA : DataW.TrodAll enc Try.prog W 0 (fun _ => true) true Try.f9.params.toList args.toList ds p := hA0
  rw [Try.params9] at hA hval
  obtain ⟨v0, vs0, d0, ds0, p0, q0, hargs, rfl, rfl, h0, r0⟩ := trodAll_cons hA
  obtain ⟨v1, vs1, d1, ds1, p1, q1, rfl, rfl, rfl, h1, r1⟩ := trodAll_cons r0
  obtain ⟨v2, vs2, d2, ds2, p2, q2, rfl, rfl, rfl, h2, r2⟩ := trodAll_cons r1
  obtain ⟨rfl, rfl, rfl⟩ := trodAll_nil r2
  obtain rfl : args = #[v0, v1, v2] := by cases args; simp_all
  obtain ⟨rfl, rfl⟩ := trodVars_none hV
  obtain ⟨a0, len0, cap0, rfl⟩ := okWide_slice Try.underlying23 (hval 0 23 v0 rfl rfl)
  have k0 := h0
  have lt0 : ∀ x ∈ p0, x.block < W.heap.size := by obtain ⟨m, hm⟩ := k0; exact DataW.trod_lt m _ _ _ hm
  obtain ⟨z0, w0⟩ : ∃ zs, IsRow .u64 W a0 len0 cap0 zs := by
    obtain ⟨fuel, hf⟩ := h0
    rcases open_ints Try.underlying23 Try.underlying34 (by kernel_rfl) hf with ⟨hcs, _⟩ | ⟨x, l, c, zs, hcs, _, hl, hm, hz, _, hcell, hwz⟩
    · simp [Value.cells] at hcs
      obtain ⟨rfl, rfl, rfl⟩ := hcs
      exact ⟨[], .inl ⟨rfl, rfl, rfl, rfl⟩⟩
    · simp [Value.cells] at hcs
      obtain ⟨rfl, rfl, rfl⟩ := hcs
      exact ⟨zs, .inr ⟨_, rfl, hl, hm, by simpa using hz, hcell, hwz⟩⟩
  obtain ⟨a1, rfl, rfl, rfl, w1⟩ := open_int Try.underlying43 (hval 1 43 v1 rfl rfl) h1
  obtain ⟨a2, rfl, rfl, rfl, w2⟩ := open_int Try.underlying43 (hval 2 43 v2 rfl rfl) h2
  clear hA0 hval0
  refine (walk a0 len0 cap0 z0 a1 a2 W w0 w1 w2).mono fun e W' ⟨he, bel⟩ => ?_
  subst he
  exact ⟨_, rfl, _, _, _, [], _, [], hW', trodAll_mk1 (shut_bool Try.underlying4 _), (trodAll_cons_mk (Below.trod laidOut (by kernel_rfl) (of_decide_eq_true (by kernel_rfl)) k0 bel lt0) (trodAll_cons_mk (shut_int Try.underlying43 w1) (trodAll_cons_mk (shut_int Try.underlying43 w2) trodAll_mk0))), rfl, bel.frame _, fun h => by cases h⟩

theorem over : Rows.natShiftsRow.holds Try.pinned (OpenSpec.ofChange Rows.natShiftsSpec) :=
  OpenClaim.holds_of_wide 9 Try.f9 rfl rfl rfl rfl rfl rfl rfl ⟨rfl, rfl, rfl, rfl, rfl⟩ rfl rfl rfl rfl rfl (by kernel_rfl) Try.func9 (by kernel_rfl)
    (of_decide_eq_true (by kernel_rfl)) (by unfold Func.isWrapper; first | (rw [if_pos (by decide +kernel)]; kernel_rfl) | (rw [if_neg (by decide +kernel)]; exact ⟨rfl, rfl⟩))
    (fun os started H enc _ => lifted os started H enc)

/-- ████ THE STATEMENT ████ -/
theorem proved : Rows.NatShiftsSaid := over
#print axioms proved
end Go.Proofs.Ytacjfbjhkogdaaa.natShifts
