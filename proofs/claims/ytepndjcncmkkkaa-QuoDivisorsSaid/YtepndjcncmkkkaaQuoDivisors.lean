/- The statement QuoDivisors: the greatest common divisor divides both; it does not hang on the row; that of c times a and c times b is c times it; it is that of b and what a leaves; divided by it both have no common divisor above 1. No condition. -/
import Derived.Test.YtepndjcncmkkkaaRows
import Derived.WalkKit
import Derived.ProofKit
import Derived.OpenShut
import Derived.Test.YtepndjcncmkkkaaQuoAwake
import Derived.ShutString
import Derived.ChangeOld
import Derived.Below
namespace Go.Proofs.Ytepndjcncmkkkaa.quoDivisors
open Go.ChangeShapes Go.WideShapes Go.ChangeAt Go.RowKit
open Go.Proofs
open Go.ChangeMaps (open_string shut_string)
set_option linter.unusedVariables false

theorem own : ownKnob Try.prog.godebug = none := by kernel_rfl
theorem laidOut : laidOutB Try.prog = true := by kernel_rfl

/-- WHAT THE WALK IS TOLD OF A SLICE OF INTEGERS THAT CAME IN: it is nil; or it leads to a row of 'cap' cells, the numbers 'zs' (the first 'len' are its elements, the rest its spare room), each fitting its kind. -/
def IsRow (k : IntKind) (w : World) (a : Option Addr) (len cap : Nat) (zs : List Int) : Prop :=
  (a = none ∧ len = 0 ∧ cap = 0 ∧ zs = []) ∨
  ∃ x, a = some x ∧ len ≤ cap ∧ cap ≤ maxLen ∧ zs.length = cap ∧ (∀ i, i < zs.length → w.cell? (x.add i) = some (.int k (zs.getD i 0))) ∧ ∀ n ∈ zs, (Lit.int k n).wf = true

open Go.Proofs.NP Go.Proofs.SL Go.Proofs.NR Go.Lib
set_option linter.unusedSimpArgs false
theorem g0 (x y : Nat) (hy : y = 0) : Nat.gcd x y = x := by rw [hy, Nat.gcd_zero_right]
theorem gne (x y : Nat) (hy : y ≠ 0) : Nat.gcd x y ≠ 0 := Nat.pos_iff_ne_zero.1 (Nat.gcd_pos_of_pos_right x (Nat.pos_of_ne_zero hy))
theorem grec (x y : Nat) : Nat.gcd y (x % y) = Nat.gcd x y := by rw [Nat.gcd_comm x y, Nat.gcd_rec y x, Nat.gcd_comm]
theorem gl (x y : Nat) : x % Nat.gcd x y = 0 := Nat.mod_eq_zero_of_dvd (Nat.gcd_dvd_left x y)
theorem gr (x y : Nat) : y % Nat.gcd x y = 0 := Nat.mod_eq_zero_of_dvd (Nat.gcd_dvd_right x y)
theorem gone (x y : Nat) (hy : y ≠ 0) : Nat.gcd (x / Nat.gcd x y) (y / Nat.gcd x y) = 1 := by
  have hd : 0 < Nat.gcd x y := Nat.gcd_pos_of_pos_right x (Nat.pos_of_ne_zero hy)
  have e := Nat.gcd_mul_left (Nat.gcd x y) (x / Nat.gcd x y) (y / Nat.gcd x y)
  rw [Nat.mul_div_cancel' (Nat.gcd_dvd_left x y), Nat.mul_div_cancel' (Nat.gcd_dvd_right x y)] at e
  exact Nat.eq_of_mul_eq_mul_left hd (by rw [Nat.mul_one]; exact e.symm)
theorem one_L : [1] = L 1 := QR.L1

/-! ### STEP 1: THE WALK: the Go text returns true, AND WRITES NOTHING THAT WAS THERE: 'Below w.heap.size w w'' (Derived/Below.lean: '.refl', '.alloc', '.drew', '.setCell' at a new block, '.trans'). Open each 'IsRow' by 'rcases' AHEAD of 'go_enter'; part every test ahead of the walk. -/
set_option maxHeartbeats 4000000 in
set_option maxRecDepth 100000 in
theorem walk (a0 : Option Addr) (len0 cap0 : Nat) (z0 : List Int) (a1 : Option Addr) (len1 cap1 : Nat) (z1 : List Int) (a2 : Option Addr) (len2 cap2 : Nat) (z2 : List Int) (w : World) (w0 : IsRow .u64 w a0 len0 cap0 z0) (w1 : IsRow .u64 w a1 len1 cap1 z1) (w2 : IsRow .u64 w a2 len2 cap2 z2) :
    Calls Try.prog 8 #[.slice a0 len0 cap0, .slice a1 len1 cap1, .slice a2 len2 cap2] w fun e w' => e = .returned (.bool true) ∧ Below w.heap.size w w' := by
  obtain ⟨xs, rfl, Sx⟩ := QL.rows w0
  obtain ⟨ys, rfl, Sy⟩ := QL.rows w1
  obtain ⟨zs, rfl, Sz⟩ := QL.rows w2
  have K : Kp w w := Kp.refl w
  clear w0 w1 w2
  by_cases hs : ¬ (xs.length ≤ 12 ∧ ys.length ≤ 12 ∧ zs.length ≤ 12)
  · have hz : true = (decide (12 < xs.length) || (decide (12 < ys.length) || decide (12 < zs.length))) := by simp; omega
    clear hs
    have HZ := Lib.hid hz; clear hz
    go_enter Try.func8, Try.ntmps8
    go_wp2_with fail
    refine (QL.long3 (by simp) true HZ).mono ?_; rintro e w' ⟨rfl, rfl⟩
    go_wp2_with fail
    refine (QL.awake _).mono ?_; rintro e u1 ⟨rfl, hb⟩
    replace Sx : Rd u1 a0 cap0 (xs) := Rd.nx (by repeat (first | with_reducible exact Sx | with_reducible apply Rd.al | with_reducible apply Rd.dr | with_reducible apply Rd.dr1)) hb
    replace Sy : Rd u1 a1 cap1 (ys) := Rd.nx (by repeat (first | with_reducible exact Sy | with_reducible apply Rd.al | with_reducible apply Rd.dr | with_reducible apply Rd.dr1)) hb
    replace Sz : Rd u1 a2 cap2 (zs) := Rd.nx (by repeat (first | with_reducible exact Sz | with_reducible apply Rd.al | with_reducible apply Rd.dr | with_reducible apply Rd.dr1)) hb
    replace K : Kp w u1 := Kp.nx (by repeat (first | with_reducible exact K | with_reducible apply Kp.al | with_reducible apply Kp.dr | with_reducible apply Kp.dr1)) hb
    clear hb
    go_wp2_with fail
    go_ret
    exact ⟨rfl, Kp.below (by repeat (first | with_reducible exact K | with_reducible apply Kp.al | with_reducible apply Kp.dr | with_reducible apply Kp.dr1))⟩
  obtain ⟨n0, n1, n2⟩ : xs.length ≤ 12 ∧ ys.length ≤ 12 ∧ zs.length ≤ 12 := by omega
  clear hs
  have fx : Fits (V xs) 12 := Fits.of Sx.ws (by omega)
  have fy : Fits (V ys) 12 := Fits.of Sy.ws (by omega)
  have fz : Fits (V zs) 12 := Fits.of Sz.ws (by omega)
  have hz : false = (decide (12 < xs.length) || (decide (12 < ys.length) || decide (12 < zs.length))) := by simp; omega
  have HZ := Lib.hid hz; clear hz
  by_cases hy : V ys = 0
  · have HY := Lib.hid hy; clear hy
    go_enter Try.func8, Try.ntmps8
    go_wp2_with fail
    refine (QL.long3 (by simp) false HZ).mono ?_; rintro e w' ⟨rfl, rfl⟩
    go_wp2_with fail
    refine (QL.awake _).mono ?_; rintro e u1 ⟨rfl, hb⟩
    replace Sx : Rd u1 a0 cap0 (xs) := Rd.nx (by repeat (first | with_reducible exact Sx | with_reducible apply Rd.al | with_reducible apply Rd.dr | with_reducible apply Rd.dr1)) hb
    replace Sy : Rd u1 a1 cap1 (ys) := Rd.nx (by repeat (first | with_reducible exact Sy | with_reducible apply Rd.al | with_reducible apply Rd.dr | with_reducible apply Rd.dr1)) hb
    replace Sz : Rd u1 a2 cap2 (zs) := Rd.nx (by repeat (first | with_reducible exact Sz | with_reducible apply Rd.al | with_reducible apply Rd.dr | with_reducible apply Rd.dr1)) hb
    replace K : Kp w u1 := Kp.nx (by repeat (first | with_reducible exact K | with_reducible apply Kp.al | with_reducible apply Kp.dr | with_reducible apply Kp.dr1)) hb
    clear hb
    obtain ⟨jd, hjd⟩ : ∃ z : List Nat, z = L (Nat.gcd (V xs) (V ys)) := ⟨_, rfl⟩
    have Nd : Hid (V jd = Nat.gcd (V xs) (V ys)) := Lib.hid (by rw [hjd, V_L])
    have ljd : jd.length ≤ 9000 := Nat.le_trans (NR.len_of hjd (QL.fgcd fx fy)) (by first | decide | omega)
    have Hd := Lib.hid hjd; clear hjd
    go_wp2_with fail
    refine (QR.gcd1 (zs := jd) (xs := xs) (ys := ys) (by repeat (first | with_reducible exact Sx | with_reducible apply Rd.al | with_reducible apply Rd.dr | with_reducible apply Rd.dr1)) (by repeat (first | with_reducible exact Sy | with_reducible apply Rd.al | with_reducible apply Rd.dr | with_reducible apply Rd.dr1)) rfl rfl (by omega) (by omega) (Hd.out.trans (congrArg L (by first | with_reducible rfl | simp only [LN.V_nil, LN.V_one])))).mono ?_; rintro e u2 ⟨pd, qd, rfl, ho, hb⟩
    replace Sx : Rd u2 a0 cap0 (xs) := Rd.nx (by repeat (first | with_reducible exact Sx | with_reducible apply Rd.al | with_reducible apply Rd.dr | with_reducible apply Rd.dr1)) hb
    replace Sy : Rd u2 a1 cap1 (ys) := Rd.nx (by repeat (first | with_reducible exact Sy | with_reducible apply Rd.al | with_reducible apply Rd.dr | with_reducible apply Rd.dr1)) hb
    replace Sz : Rd u2 a2 cap2 (zs) := Rd.nx (by repeat (first | with_reducible exact Sz | with_reducible apply Rd.al | with_reducible apply Rd.dr | with_reducible apply Rd.dr1)) hb
    replace K : Kp w u2 := Kp.nx (by repeat (first | with_reducible exact K | with_reducible apply Kp.al | with_reducible apply Kp.dr | with_reducible apply Kp.dr1)) hb
    have Sd : Rd u2 pd qd (jd) := ho.rd
    clear ho hb
    obtain ⟨jd2, hjd2⟩ : ∃ z : List Nat, z = L (Nat.gcd (V ys) (V xs)) := ⟨_, rfl⟩
    have Nd2 : Hid (V jd2 = Nat.gcd (V ys) (V xs)) := Lib.hid (by rw [hjd2, V_L])
    have ljd2 : jd2.length ≤ 9000 := Nat.le_trans (NR.len_of hjd2 (QL.fgcd fy fx)) (by first | decide | omega)
    have Hd2 := Lib.hid hjd2; clear hjd2
    go_wp2_with fail
    refine (QR.gcd1 (zs := jd2) (xs := ys) (ys := xs) (by repeat (first | with_reducible exact Sy | with_reducible apply Rd.al | with_reducible apply Rd.dr | with_reducible apply Rd.dr1)) (by repeat (first | with_reducible exact Sx | with_reducible apply Rd.al | with_reducible apply Rd.dr | with_reducible apply Rd.dr1)) rfl rfl (by omega) (by omega) (Hd2.out.trans (congrArg L (by first | with_reducible rfl | simp only [LN.V_nil, LN.V_one])))).mono ?_; rintro e u3 ⟨pd2, qd2, rfl, ho, hb⟩
    replace Sx : Rd u3 a0 cap0 (xs) := Rd.nx (by repeat (first | with_reducible exact Sx | with_reducible apply Rd.al | with_reducible apply Rd.dr | with_reducible apply Rd.dr1)) hb
    replace Sy : Rd u3 a1 cap1 (ys) := Rd.nx (by repeat (first | with_reducible exact Sy | with_reducible apply Rd.al | with_reducible apply Rd.dr | with_reducible apply Rd.dr1)) hb
    replace Sz : Rd u3 a2 cap2 (zs) := Rd.nx (by repeat (first | with_reducible exact Sz | with_reducible apply Rd.al | with_reducible apply Rd.dr | with_reducible apply Rd.dr1)) hb
    replace Sd : Rd u3 pd qd (jd) := Rd.nx (by repeat (first | with_reducible exact Sd | with_reducible apply Rd.al | with_reducible apply Rd.dr | with_reducible apply Rd.dr1)) hb
    replace K : Kp w u3 := Kp.nx (by repeat (first | with_reducible exact K | with_reducible apply Kp.al | with_reducible apply Kp.dr | with_reducible apply Kp.dr1)) hb
    have Sd2 : Rd u3 pd2 qd2 (jd2) := ho.rd
    clear ho hb
    go_wp2_with fail
    refine (QL.same_yes (xs := jd2) (ys := jd) (by repeat (first | with_reducible exact Sd2 | with_reducible apply Rd.al | with_reducible apply Rd.dr | with_reducible apply Rd.dr1)) (by repeat (first | with_reducible exact Sd | with_reducible apply Rd.al | with_reducible apply Rd.dr | with_reducible apply Rd.dr1)) rfl rfl (by omega) (Hd2.out.trans ((congrArg L (Nat.gcd_comm _ _)).trans Hd.out.symm))).mono ?_; rintro e u4 ⟨rfl, hb⟩
    replace Sx : Rd u4 a0 cap0 (xs) := Rd.nx (by repeat (first | with_reducible exact Sx | with_reducible apply Rd.al | with_reducible apply Rd.dr | with_reducible apply Rd.dr1)) hb
    replace Sy : Rd u4 a1 cap1 (ys) := Rd.nx (by repeat (first | with_reducible exact Sy | with_reducible apply Rd.al | with_reducible apply Rd.dr | with_reducible apply Rd.dr1)) hb
    replace Sz : Rd u4 a2 cap2 (zs) := Rd.nx (by repeat (first | with_reducible exact Sz | with_reducible apply Rd.al | with_reducible apply Rd.dr | with_reducible apply Rd.dr1)) hb
    replace Sd : Rd u4 pd qd (jd) := Rd.nx (by repeat (first | with_reducible exact Sd | with_reducible apply Rd.al | with_reducible apply Rd.dr | with_reducible apply Rd.dr1)) hb
    replace Sd2 : Rd u4 pd2 qd2 (jd2) := Rd.nx (by repeat (first | with_reducible exact Sd2 | with_reducible apply Rd.al | with_reducible apply Rd.dr | with_reducible apply Rd.dr1)) hb
    replace K : Kp w u4 := Kp.nx (by repeat (first | with_reducible exact K | with_reducible apply Kp.al | with_reducible apply Kp.dr | with_reducible apply Kp.dr1)) hb
    clear hb
    clear Sd2
    obtain ⟨jm, hjm⟩ : ∃ z : List Nat, z = L ((V zs) * (V xs)) := ⟨_, rfl⟩
    have Nm : Hid (V jm = (V zs) * (V xs)) := Lib.hid (by rw [hjm, V_L])
    have ljm : jm.length ≤ 9000 := Nat.le_trans (NR.len_of hjm (fz.mul fx)) (by first | decide | omega)
    have Hm := Lib.hid hjm; clear hjm
    go_wp2_with fail
    refine (NR.mul (zs := jm) (xs := zs) (ys := xs) (by repeat (first | with_reducible exact Sz | with_reducible apply Rd.al | with_reducible apply Rd.dr | with_reducible apply Rd.dr1)) (by repeat (first | with_reducible exact Sx | with_reducible apply Rd.al | with_reducible apply Rd.dr | with_reducible apply Rd.dr1)) rfl rfl (by omega) (by omega) (Hm.out.trans (congrArg L (by first | with_reducible rfl | simp only [LN.V_nil, LN.V_one])))).mono ?_; rintro e u5 ⟨pm, qm, rfl, ho, hb⟩
    replace Sx : Rd u5 a0 cap0 (xs) := Rd.nx (by repeat (first | with_reducible exact Sx | with_reducible apply Rd.al | with_reducible apply Rd.dr | with_reducible apply Rd.dr1)) hb
    replace Sy : Rd u5 a1 cap1 (ys) := Rd.nx (by repeat (first | with_reducible exact Sy | with_reducible apply Rd.al | with_reducible apply Rd.dr | with_reducible apply Rd.dr1)) hb
    replace Sz : Rd u5 a2 cap2 (zs) := Rd.nx (by repeat (first | with_reducible exact Sz | with_reducible apply Rd.al | with_reducible apply Rd.dr | with_reducible apply Rd.dr1)) hb
    replace Sd : Rd u5 pd qd (jd) := Rd.nx (by repeat (first | with_reducible exact Sd | with_reducible apply Rd.al | with_reducible apply Rd.dr | with_reducible apply Rd.dr1)) hb
    replace K : Kp w u5 := Kp.nx (by repeat (first | with_reducible exact K | with_reducible apply Kp.al | with_reducible apply Kp.dr | with_reducible apply Kp.dr1)) hb
    have Sm : Rd u5 pm qm (jm) := ho.rd
    clear ho hb
    obtain ⟨jm2, hjm2⟩ : ∃ z : List Nat, z = L ((V zs) * (V ys)) := ⟨_, rfl⟩
    have Nm2 : Hid (V jm2 = (V zs) * (V ys)) := Lib.hid (by rw [hjm2, V_L])
    have ljm2 : jm2.length ≤ 9000 := Nat.le_trans (NR.len_of hjm2 (fz.mul fy)) (by first | decide | omega)
    have Hm2 := Lib.hid hjm2; clear hjm2
    go_wp2_with fail
    refine (NR.mul (zs := jm2) (xs := zs) (ys := ys) (by repeat (first | with_reducible exact Sz | with_reducible apply Rd.al | with_reducible apply Rd.dr | with_reducible apply Rd.dr1)) (by repeat (first | with_reducible exact Sy | with_reducible apply Rd.al | with_reducible apply Rd.dr | with_reducible apply Rd.dr1)) rfl rfl (by omega) (by omega) (Hm2.out.trans (congrArg L (by first | with_reducible rfl | simp only [LN.V_nil, LN.V_one])))).mono ?_; rintro e u6 ⟨pm2, qm2, rfl, ho, hb⟩
    replace Sx : Rd u6 a0 cap0 (xs) := Rd.nx (by repeat (first | with_reducible exact Sx | with_reducible apply Rd.al | with_reducible apply Rd.dr | with_reducible apply Rd.dr1)) hb
    replace Sy : Rd u6 a1 cap1 (ys) := Rd.nx (by repeat (first | with_reducible exact Sy | with_reducible apply Rd.al | with_reducible apply Rd.dr | with_reducible apply Rd.dr1)) hb
    replace Sz : Rd u6 a2 cap2 (zs) := Rd.nx (by repeat (first | with_reducible exact Sz | with_reducible apply Rd.al | with_reducible apply Rd.dr | with_reducible apply Rd.dr1)) hb
    replace Sd : Rd u6 pd qd (jd) := Rd.nx (by repeat (first | with_reducible exact Sd | with_reducible apply Rd.al | with_reducible apply Rd.dr | with_reducible apply Rd.dr1)) hb
    replace Sm : Rd u6 pm qm (jm) := Rd.nx (by repeat (first | with_reducible exact Sm | with_reducible apply Rd.al | with_reducible apply Rd.dr | with_reducible apply Rd.dr1)) hb
    replace K : Kp w u6 := Kp.nx (by repeat (first | with_reducible exact K | with_reducible apply Kp.al | with_reducible apply Kp.dr | with_reducible apply Kp.dr1)) hb
    have Sm2 : Rd u6 pm2 qm2 (jm2) := ho.rd
    clear ho hb
    obtain ⟨jd3, hjd3⟩ : ∃ z : List Nat, z = L (Nat.gcd ((V zs) * (V xs)) ((V zs) * (V ys))) := ⟨_, rfl⟩
    have Nd3 : Hid (V jd3 = Nat.gcd ((V zs) * (V xs)) ((V zs) * (V ys))) := Lib.hid (by rw [hjd3, V_L])
    have ljd3 : jd3.length ≤ 9000 := Nat.le_trans (NR.len_of hjd3 (QL.fgcd (fz.mul fx) (fz.mul fy))) (by first | decide | omega)
    have Hd3 := Lib.hid hjd3; clear hjd3
    go_wp2_with fail
    refine (QR.gcd1 (zs := jd3) (xs := jm) (ys := jm2) (by repeat (first | with_reducible exact Sm | with_reducible apply Rd.al | with_reducible apply Rd.dr | with_reducible apply Rd.dr1)) (by repeat (first | with_reducible exact Sm2 | with_reducible apply Rd.al | with_reducible apply Rd.dr | with_reducible apply Rd.dr1)) rfl rfl (by omega) (by omega) (Hd3.out.trans (congrArg L (by first | with_reducible rfl | simp only [Nm.out, Nm2.out, LN.V_nil, LN.V_one])))).mono ?_; rintro e u7 ⟨pd3, qd3, rfl, ho, hb⟩
    replace Sx : Rd u7 a0 cap0 (xs) := Rd.nx (by repeat (first | with_reducible exact Sx | with_reducible apply Rd.al | with_reducible apply Rd.dr | with_reducible apply Rd.dr1)) hb
    replace Sy : Rd u7 a1 cap1 (ys) := Rd.nx (by repeat (first | with_reducible exact Sy | with_reducible apply Rd.al | with_reducible apply Rd.dr | with_reducible apply Rd.dr1)) hb
    replace Sz : Rd u7 a2 cap2 (zs) := Rd.nx (by repeat (first | with_reducible exact Sz | with_reducible apply Rd.al | with_reducible apply Rd.dr | with_reducible apply Rd.dr1)) hb
    replace Sd : Rd u7 pd qd (jd) := Rd.nx (by repeat (first | with_reducible exact Sd | with_reducible apply Rd.al | with_reducible apply Rd.dr | with_reducible apply Rd.dr1)) hb
    replace Sm : Rd u7 pm qm (jm) := Rd.nx (by repeat (first | with_reducible exact Sm | with_reducible apply Rd.al | with_reducible apply Rd.dr | with_reducible apply Rd.dr1)) hb
    replace Sm2 : Rd u7 pm2 qm2 (jm2) := Rd.nx (by repeat (first | with_reducible exact Sm2 | with_reducible apply Rd.al | with_reducible apply Rd.dr | with_reducible apply Rd.dr1)) hb
    replace K : Kp w u7 := Kp.nx (by repeat (first | with_reducible exact K | with_reducible apply Kp.al | with_reducible apply Kp.dr | with_reducible apply Kp.dr1)) hb
    have Sd3 : Rd u7 pd3 qd3 (jd3) := ho.rd
    clear ho hb
    obtain ⟨jm3, hjm3⟩ : ∃ z : List Nat, z = L ((V zs) * (Nat.gcd (V xs) (V ys))) := ⟨_, rfl⟩
    have Nm3 : Hid (V jm3 = (V zs) * (Nat.gcd (V xs) (V ys))) := Lib.hid (by rw [hjm3, V_L])
    have ljm3 : jm3.length ≤ 9000 := Nat.le_trans (NR.len_of hjm3 (fz.mul (QL.fgcd fx fy))) (by first | decide | omega)
    have Hm3 := Lib.hid hjm3; clear hjm3
    go_wp2_with fail
    refine (NR.mul (zs := jm3) (xs := zs) (ys := jd) (by repeat (first | with_reducible exact Sz | with_reducible apply Rd.al | with_reducible apply Rd.dr | with_reducible apply Rd.dr1)) (by repeat (first | with_reducible exact Sd | with_reducible apply Rd.al | with_reducible apply Rd.dr | with_reducible apply Rd.dr1)) rfl rfl (by omega) (by omega) (Hm3.out.trans (congrArg L (by first | with_reducible rfl | simp only [Nd.out, LN.V_nil, LN.V_one])))).mono ?_; rintro e u8 ⟨pm3, qm3, rfl, ho, hb⟩
    replace Sx : Rd u8 a0 cap0 (xs) := Rd.nx (by repeat (first | with_reducible exact Sx | with_reducible apply Rd.al | with_reducible apply Rd.dr | with_reducible apply Rd.dr1)) hb
    replace Sy : Rd u8 a1 cap1 (ys) := Rd.nx (by repeat (first | with_reducible exact Sy | with_reducible apply Rd.al | with_reducible apply Rd.dr | with_reducible apply Rd.dr1)) hb
    replace Sz : Rd u8 a2 cap2 (zs) := Rd.nx (by repeat (first | with_reducible exact Sz | with_reducible apply Rd.al | with_reducible apply Rd.dr | with_reducible apply Rd.dr1)) hb
    replace Sd : Rd u8 pd qd (jd) := Rd.nx (by repeat (first | with_reducible exact Sd | with_reducible apply Rd.al | with_reducible apply Rd.dr | with_reducible apply Rd.dr1)) hb
    replace Sm : Rd u8 pm qm (jm) := Rd.nx (by repeat (first | with_reducible exact Sm | with_reducible apply Rd.al | with_reducible apply Rd.dr | with_reducible apply Rd.dr1)) hb
    replace Sm2 : Rd u8 pm2 qm2 (jm2) := Rd.nx (by repeat (first | with_reducible exact Sm2 | with_reducible apply Rd.al | with_reducible apply Rd.dr | with_reducible apply Rd.dr1)) hb
    replace Sd3 : Rd u8 pd3 qd3 (jd3) := Rd.nx (by repeat (first | with_reducible exact Sd3 | with_reducible apply Rd.al | with_reducible apply Rd.dr | with_reducible apply Rd.dr1)) hb
    replace K : Kp w u8 := Kp.nx (by repeat (first | with_reducible exact K | with_reducible apply Kp.al | with_reducible apply Kp.dr | with_reducible apply Kp.dr1)) hb
    have Sm3 : Rd u8 pm3 qm3 (jm3) := ho.rd
    clear ho hb
    go_wp2_with fail
    refine (QL.same_yes (xs := jd3) (ys := jm3) (by repeat (first | with_reducible exact Sd3 | with_reducible apply Rd.al | with_reducible apply Rd.dr | with_reducible apply Rd.dr1)) (by repeat (first | with_reducible exact Sm3 | with_reducible apply Rd.al | with_reducible apply Rd.dr | with_reducible apply Rd.dr1)) rfl rfl (by omega) (Hd3.out.trans ((congrArg L (Nat.gcd_mul_left _ _ _)).trans Hm3.out.symm))).mono ?_; rintro e u9 ⟨rfl, hb⟩
    replace Sx : Rd u9 a0 cap0 (xs) := Rd.nx (by repeat (first | with_reducible exact Sx | with_reducible apply Rd.al | with_reducible apply Rd.dr | with_reducible apply Rd.dr1)) hb
    replace Sy : Rd u9 a1 cap1 (ys) := Rd.nx (by repeat (first | with_reducible exact Sy | with_reducible apply Rd.al | with_reducible apply Rd.dr | with_reducible apply Rd.dr1)) hb
    replace Sz : Rd u9 a2 cap2 (zs) := Rd.nx (by repeat (first | with_reducible exact Sz | with_reducible apply Rd.al | with_reducible apply Rd.dr | with_reducible apply Rd.dr1)) hb
    replace Sd : Rd u9 pd qd (jd) := Rd.nx (by repeat (first | with_reducible exact Sd | with_reducible apply Rd.al | with_reducible apply Rd.dr | with_reducible apply Rd.dr1)) hb
    replace Sm : Rd u9 pm qm (jm) := Rd.nx (by repeat (first | with_reducible exact Sm | with_reducible apply Rd.al | with_reducible apply Rd.dr | with_reducible apply Rd.dr1)) hb
    replace Sm2 : Rd u9 pm2 qm2 (jm2) := Rd.nx (by repeat (first | with_reducible exact Sm2 | with_reducible apply Rd.al | with_reducible apply Rd.dr | with_reducible apply Rd.dr1)) hb
    replace Sd3 : Rd u9 pd3 qd3 (jd3) := Rd.nx (by repeat (first | with_reducible exact Sd3 | with_reducible apply Rd.al | with_reducible apply Rd.dr | with_reducible apply Rd.dr1)) hb
    replace Sm3 : Rd u9 pm3 qm3 (jm3) := Rd.nx (by repeat (first | with_reducible exact Sm3 | with_reducible apply Rd.al | with_reducible apply Rd.dr | with_reducible apply Rd.dr1)) hb
    replace K : Kp w u9 := Kp.nx (by repeat (first | with_reducible exact K | with_reducible apply Kp.al | with_reducible apply Kp.dr | with_reducible apply Kp.dr1)) hb
    clear hb
    clear Sm
    clear Sm2
    clear Sd3
    clear Sm3
    go_wp2_with fail
    refine (NR.zero (xs := ys) (by repeat (first | with_reducible exact Sy | with_reducible apply Rd.al | with_reducible apply Rd.dr | with_reducible apply Rd.dr1)) rfl (by omega) true (by rw [HY.out]; rfl)).mono ?_; rintro e w' ⟨rfl, rfl⟩
    obtain ⟨jt, hjt⟩ : ∃ z : List Nat, z = L (V xs) := ⟨_, rfl⟩
    have Nt : Hid (V jt = V xs) := Lib.hid (by rw [hjt, V_L])
    have ljt : jt.length ≤ 9000 := Nat.le_trans (NR.len_of hjt fx) (by first | decide | omega)
    have Ht := Lib.hid hjt; clear hjt
    go_wp2_with fail
    refine (NR.trim (zs := jt) (xs := xs) (by repeat (first | with_reducible exact Sx | with_reducible apply Rd.al | with_reducible apply Rd.dr | with_reducible apply Rd.dr1)) rfl (by omega) (Ht.out.trans (congrArg L (by first | with_reducible rfl | simp only [LN.V_nil, LN.V_one])))).mono ?_; rintro e u10 ⟨pt, qt, rfl, ho, hb⟩
    replace Sx : Rd u10 a0 cap0 (xs) := Rd.nx (by repeat (first | with_reducible exact Sx | with_reducible apply Rd.al | with_reducible apply Rd.dr | with_reducible apply Rd.dr1)) hb
    replace Sy : Rd u10 a1 cap1 (ys) := Rd.nx (by repeat (first | with_reducible exact Sy | with_reducible apply Rd.al | with_reducible apply Rd.dr | with_reducible apply Rd.dr1)) hb
    replace Sz : Rd u10 a2 cap2 (zs) := Rd.nx (by repeat (first | with_reducible exact Sz | with_reducible apply Rd.al | with_reducible apply Rd.dr | with_reducible apply Rd.dr1)) hb
    replace Sd : Rd u10 pd qd (jd) := Rd.nx (by repeat (first | with_reducible exact Sd | with_reducible apply Rd.al | with_reducible apply Rd.dr | with_reducible apply Rd.dr1)) hb
    replace K : Kp w u10 := Kp.nx (by repeat (first | with_reducible exact K | with_reducible apply Kp.al | with_reducible apply Kp.dr | with_reducible apply Kp.dr1)) hb
    have St : Rd u10 pt qt (jt) := ho.rd
    clear ho hb
    go_wp2_with fail
    refine (QL.same_yes (xs := jd) (ys := jt) (by repeat (first | with_reducible exact Sd | with_reducible apply Rd.al | with_reducible apply Rd.dr | with_reducible apply Rd.dr1)) (by repeat (first | with_reducible exact St | with_reducible apply Rd.al | with_reducible apply Rd.dr | with_reducible apply Rd.dr1)) rfl rfl (by omega) (Hd.out.trans ((congrArg L (g0 _ _ HY.out)).trans Ht.out.symm))).mono ?_; rintro e u11 ⟨rfl, hb⟩
    replace Sx : Rd u11 a0 cap0 (xs) := Rd.nx (by repeat (first | with_reducible exact Sx | with_reducible apply Rd.al | with_reducible apply Rd.dr | with_reducible apply Rd.dr1)) hb
    replace Sy : Rd u11 a1 cap1 (ys) := Rd.nx (by repeat (first | with_reducible exact Sy | with_reducible apply Rd.al | with_reducible apply Rd.dr | with_reducible apply Rd.dr1)) hb
    replace Sz : Rd u11 a2 cap2 (zs) := Rd.nx (by repeat (first | with_reducible exact Sz | with_reducible apply Rd.al | with_reducible apply Rd.dr | with_reducible apply Rd.dr1)) hb
    replace Sd : Rd u11 pd qd (jd) := Rd.nx (by repeat (first | with_reducible exact Sd | with_reducible apply Rd.al | with_reducible apply Rd.dr | with_reducible apply Rd.dr1)) hb
    replace St : Rd u11 pt qt (jt) := Rd.nx (by repeat (first | with_reducible exact St | with_reducible apply Rd.al | with_reducible apply Rd.dr | with_reducible apply Rd.dr1)) hb
    replace K : Kp w u11 := Kp.nx (by repeat (first | with_reducible exact K | with_reducible apply Kp.al | with_reducible apply Kp.dr | with_reducible apply Kp.dr1)) hb
    clear hb
    go_wp2_with fail
    go_ret
    exact ⟨rfl, Kp.below (by repeat (first | with_reducible exact K | with_reducible apply Kp.al | with_reducible apply Kp.dr | with_reducible apply Kp.dr1))⟩
  · have HY := Lib.hid hy; clear hy
    go_enter Try.func8, Try.ntmps8
    go_wp2_with fail
    refine (QL.long3 (by simp) false HZ).mono ?_; rintro e w' ⟨rfl, rfl⟩
    go_wp2_with fail
    refine (QL.awake _).mono ?_; rintro e u1 ⟨rfl, hb⟩
    replace Sx : Rd u1 a0 cap0 (xs) := Rd.nx (by repeat (first | with_reducible exact Sx | with_reducible apply Rd.al | with_reducible apply Rd.dr | with_reducible apply Rd.dr1)) hb
    replace Sy : Rd u1 a1 cap1 (ys) := Rd.nx (by repeat (first | with_reducible exact Sy | with_reducible apply Rd.al | with_reducible apply Rd.dr | with_reducible apply Rd.dr1)) hb
    replace Sz : Rd u1 a2 cap2 (zs) := Rd.nx (by repeat (first | with_reducible exact Sz | with_reducible apply Rd.al | with_reducible apply Rd.dr | with_reducible apply Rd.dr1)) hb
    replace K : Kp w u1 := Kp.nx (by repeat (first | with_reducible exact K | with_reducible apply Kp.al | with_reducible apply Kp.dr | with_reducible apply Kp.dr1)) hb
    clear hb
    obtain ⟨jd, hjd⟩ : ∃ z : List Nat, z = L (Nat.gcd (V xs) (V ys)) := ⟨_, rfl⟩
    have Nd : Hid (V jd = Nat.gcd (V xs) (V ys)) := Lib.hid (by rw [hjd, V_L])
    have ljd : jd.length ≤ 9000 := Nat.le_trans (NR.len_of hjd (QL.fgcd fx fy)) (by first | decide | omega)
    have Hd := Lib.hid hjd; clear hjd
    go_wp2_with fail
    refine (QR.gcd1 (zs := jd) (xs := xs) (ys := ys) (by repeat (first | with_reducible exact Sx | with_reducible apply Rd.al | with_reducible apply Rd.dr | with_reducible apply Rd.dr1)) (by repeat (first | with_reducible exact Sy | with_reducible apply Rd.al | with_reducible apply Rd.dr | with_reducible apply Rd.dr1)) rfl rfl (by omega) (by omega) (Hd.out.trans (congrArg L (by first | with_reducible rfl | simp only [LN.V_nil, LN.V_one])))).mono ?_; rintro e u2 ⟨pd, qd, rfl, ho, hb⟩
    replace Sx : Rd u2 a0 cap0 (xs) := Rd.nx (by repeat (first | with_reducible exact Sx | with_reducible apply Rd.al | with_reducible apply Rd.dr | with_reducible apply Rd.dr1)) hb
    replace Sy : Rd u2 a1 cap1 (ys) := Rd.nx (by repeat (first | with_reducible exact Sy | with_reducible apply Rd.al | with_reducible apply Rd.dr | with_reducible apply Rd.dr1)) hb
    replace Sz : Rd u2 a2 cap2 (zs) := Rd.nx (by repeat (first | with_reducible exact Sz | with_reducible apply Rd.al | with_reducible apply Rd.dr | with_reducible apply Rd.dr1)) hb
    replace K : Kp w u2 := Kp.nx (by repeat (first | with_reducible exact K | with_reducible apply Kp.al | with_reducible apply Kp.dr | with_reducible apply Kp.dr1)) hb
    have Sd : Rd u2 pd qd (jd) := ho.rd
    clear ho hb
    obtain ⟨jd2, hjd2⟩ : ∃ z : List Nat, z = L (Nat.gcd (V ys) (V xs)) := ⟨_, rfl⟩
    have Nd2 : Hid (V jd2 = Nat.gcd (V ys) (V xs)) := Lib.hid (by rw [hjd2, V_L])
    have ljd2 : jd2.length ≤ 9000 := Nat.le_trans (NR.len_of hjd2 (QL.fgcd fy fx)) (by first | decide | omega)
    have Hd2 := Lib.hid hjd2; clear hjd2
    go_wp2_with fail
    refine (QR.gcd1 (zs := jd2) (xs := ys) (ys := xs) (by repeat (first | with_reducible exact Sy | with_reducible apply Rd.al | with_reducible apply Rd.dr | with_reducible apply Rd.dr1)) (by repeat (first | with_reducible exact Sx | with_reducible apply Rd.al | with_reducible apply Rd.dr | with_reducible apply Rd.dr1)) rfl rfl (by omega) (by omega) (Hd2.out.trans (congrArg L (by first | with_reducible rfl | simp only [LN.V_nil, LN.V_one])))).mono ?_; rintro e u3 ⟨pd2, qd2, rfl, ho, hb⟩
    replace Sx : Rd u3 a0 cap0 (xs) := Rd.nx (by repeat (first | with_reducible exact Sx | with_reducible apply Rd.al | with_reducible apply Rd.dr | with_reducible apply Rd.dr1)) hb
    replace Sy : Rd u3 a1 cap1 (ys) := Rd.nx (by repeat (first | with_reducible exact Sy | with_reducible apply Rd.al | with_reducible apply Rd.dr | with_reducible apply Rd.dr1)) hb
    replace Sz : Rd u3 a2 cap2 (zs) := Rd.nx (by repeat (first | with_reducible exact Sz | with_reducible apply Rd.al | with_reducible apply Rd.dr | with_reducible apply Rd.dr1)) hb
    replace Sd : Rd u3 pd qd (jd) := Rd.nx (by repeat (first | with_reducible exact Sd | with_reducible apply Rd.al | with_reducible apply Rd.dr | with_reducible apply Rd.dr1)) hb
    replace K : Kp w u3 := Kp.nx (by repeat (first | with_reducible exact K | with_reducible apply Kp.al | with_reducible apply Kp.dr | with_reducible apply Kp.dr1)) hb
    have Sd2 : Rd u3 pd2 qd2 (jd2) := ho.rd
    clear ho hb
    go_wp2_with fail
    refine (QL.same_yes (xs := jd2) (ys := jd) (by repeat (first | with_reducible exact Sd2 | with_reducible apply Rd.al | with_reducible apply Rd.dr | with_reducible apply Rd.dr1)) (by repeat (first | with_reducible exact Sd | with_reducible apply Rd.al | with_reducible apply Rd.dr | with_reducible apply Rd.dr1)) rfl rfl (by omega) (Hd2.out.trans ((congrArg L (Nat.gcd_comm _ _)).trans Hd.out.symm))).mono ?_; rintro e u4 ⟨rfl, hb⟩
    replace Sx : Rd u4 a0 cap0 (xs) := Rd.nx (by repeat (first | with_reducible exact Sx | with_reducible apply Rd.al | with_reducible apply Rd.dr | with_reducible apply Rd.dr1)) hb
    replace Sy : Rd u4 a1 cap1 (ys) := Rd.nx (by repeat (first | with_reducible exact Sy | with_reducible apply Rd.al | with_reducible apply Rd.dr | with_reducible apply Rd.dr1)) hb
    replace Sz : Rd u4 a2 cap2 (zs) := Rd.nx (by repeat (first | with_reducible exact Sz | with_reducible apply Rd.al | with_reducible apply Rd.dr | with_reducible apply Rd.dr1)) hb
    replace Sd : Rd u4 pd qd (jd) := Rd.nx (by repeat (first | with_reducible exact Sd | with_reducible apply Rd.al | with_reducible apply Rd.dr | with_reducible apply Rd.dr1)) hb
    replace Sd2 : Rd u4 pd2 qd2 (jd2) := Rd.nx (by repeat (first | with_reducible exact Sd2 | with_reducible apply Rd.al | with_reducible apply Rd.dr | with_reducible apply Rd.dr1)) hb
    replace K : Kp w u4 := Kp.nx (by repeat (first | with_reducible exact K | with_reducible apply Kp.al | with_reducible apply Kp.dr | with_reducible apply Kp.dr1)) hb
    clear hb
    clear Sd2
    obtain ⟨jm, hjm⟩ : ∃ z : List Nat, z = L ((V zs) * (V xs)) := ⟨_, rfl⟩
    have Nm : Hid (V jm = (V zs) * (V xs)) := Lib.hid (by rw [hjm, V_L])
    have ljm : jm.length ≤ 9000 := Nat.le_trans (NR.len_of hjm (fz.mul fx)) (by first | decide | omega)
    have Hm := Lib.hid hjm; clear hjm
    go_wp2_with fail
    refine (NR.mul (zs := jm) (xs := zs) (ys := xs) (by repeat (first | with_reducible exact Sz | with_reducible apply Rd.al | with_reducible apply Rd.dr | with_reducible apply Rd.dr1)) (by repeat (first | with_reducible exact Sx | with_reducible apply Rd.al | with_reducible apply Rd.dr | with_reducible apply Rd.dr1)) rfl rfl (by omega) (by omega) (Hm.out.trans (congrArg L (by first | with_reducible rfl | simp only [LN.V_nil, LN.V_one])))).mono ?_; rintro e u5 ⟨pm, qm, rfl, ho, hb⟩
    replace Sx : Rd u5 a0 cap0 (xs) := Rd.nx (by repeat (first | with_reducible exact Sx | with_reducible apply Rd.al | with_reducible apply Rd.dr | with_reducible apply Rd.dr1)) hb
    replace Sy : Rd u5 a1 cap1 (ys) := Rd.nx (by repeat (first | with_reducible exact Sy | with_reducible apply Rd.al | with_reducible apply Rd.dr | with_reducible apply Rd.dr1)) hb
    replace Sz : Rd u5 a2 cap2 (zs) := Rd.nx (by repeat (first | with_reducible exact Sz | with_reducible apply Rd.al | with_reducible apply Rd.dr | with_reducible apply Rd.dr1)) hb
    replace Sd : Rd u5 pd qd (jd) := Rd.nx (by repeat (first | with_reducible exact Sd | with_reducible apply Rd.al | with_reducible apply Rd.dr | with_reducible apply Rd.dr1)) hb
    replace K : Kp w u5 := Kp.nx (by repeat (first | with_reducible exact K | with_reducible apply Kp.al | with_reducible apply Kp.dr | with_reducible apply Kp.dr1)) hb
    have Sm : Rd u5 pm qm (jm) := ho.rd
    clear ho hb
    obtain ⟨jm2, hjm2⟩ : ∃ z : List Nat, z = L ((V zs) * (V ys)) := ⟨_, rfl⟩
    have Nm2 : Hid (V jm2 = (V zs) * (V ys)) := Lib.hid (by rw [hjm2, V_L])
    have ljm2 : jm2.length ≤ 9000 := Nat.le_trans (NR.len_of hjm2 (fz.mul fy)) (by first | decide | omega)
    have Hm2 := Lib.hid hjm2; clear hjm2
    go_wp2_with fail
    refine (NR.mul (zs := jm2) (xs := zs) (ys := ys) (by repeat (first | with_reducible exact Sz | with_reducible apply Rd.al | with_reducible apply Rd.dr | with_reducible apply Rd.dr1)) (by repeat (first | with_reducible exact Sy | with_reducible apply Rd.al | with_reducible apply Rd.dr | with_reducible apply Rd.dr1)) rfl rfl (by omega) (by omega) (Hm2.out.trans (congrArg L (by first | with_reducible rfl | simp only [LN.V_nil, LN.V_one])))).mono ?_; rintro e u6 ⟨pm2, qm2, rfl, ho, hb⟩
    replace Sx : Rd u6 a0 cap0 (xs) := Rd.nx (by repeat (first | with_reducible exact Sx | with_reducible apply Rd.al | with_reducible apply Rd.dr | with_reducible apply Rd.dr1)) hb
    replace Sy : Rd u6 a1 cap1 (ys) := Rd.nx (by repeat (first | with_reducible exact Sy | with_reducible apply Rd.al | with_reducible apply Rd.dr | with_reducible apply Rd.dr1)) hb
    replace Sz : Rd u6 a2 cap2 (zs) := Rd.nx (by repeat (first | with_reducible exact Sz | with_reducible apply Rd.al | with_reducible apply Rd.dr | with_reducible apply Rd.dr1)) hb
    replace Sd : Rd u6 pd qd (jd) := Rd.nx (by repeat (first | with_reducible exact Sd | with_reducible apply Rd.al | with_reducible apply Rd.dr | with_reducible apply Rd.dr1)) hb
    replace Sm : Rd u6 pm qm (jm) := Rd.nx (by repeat (first | with_reducible exact Sm | with_reducible apply Rd.al | with_reducible apply Rd.dr | with_reducible apply Rd.dr1)) hb
    replace K : Kp w u6 := Kp.nx (by repeat (first | with_reducible exact K | with_reducible apply Kp.al | with_reducible apply Kp.dr | with_reducible apply Kp.dr1)) hb
    have Sm2 : Rd u6 pm2 qm2 (jm2) := ho.rd
    clear ho hb
    obtain ⟨jd3, hjd3⟩ : ∃ z : List Nat, z = L (Nat.gcd ((V zs) * (V xs)) ((V zs) * (V ys))) := ⟨_, rfl⟩
    have Nd3 : Hid (V jd3 = Nat.gcd ((V zs) * (V xs)) ((V zs) * (V ys))) := Lib.hid (by rw [hjd3, V_L])
    have ljd3 : jd3.length ≤ 9000 := Nat.le_trans (NR.len_of hjd3 (QL.fgcd (fz.mul fx) (fz.mul fy))) (by first | decide | omega)
    have Hd3 := Lib.hid hjd3; clear hjd3
    go_wp2_with fail
    refine (QR.gcd1 (zs := jd3) (xs := jm) (ys := jm2) (by repeat (first | with_reducible exact Sm | with_reducible apply Rd.al | with_reducible apply Rd.dr | with_reducible apply Rd.dr1)) (by repeat (first | with_reducible exact Sm2 | with_reducible apply Rd.al | with_reducible apply Rd.dr | with_reducible apply Rd.dr1)) rfl rfl (by omega) (by omega) (Hd3.out.trans (congrArg L (by first | with_reducible rfl | simp only [Nm.out, Nm2.out, LN.V_nil, LN.V_one])))).mono ?_; rintro e u7 ⟨pd3, qd3, rfl, ho, hb⟩
    replace Sx : Rd u7 a0 cap0 (xs) := Rd.nx (by repeat (first | with_reducible exact Sx | with_reducible apply Rd.al | with_reducible apply Rd.dr | with_reducible apply Rd.dr1)) hb
    replace Sy : Rd u7 a1 cap1 (ys) := Rd.nx (by repeat (first | with_reducible exact Sy | with_reducible apply Rd.al | with_reducible apply Rd.dr | with_reducible apply Rd.dr1)) hb
    replace Sz : Rd u7 a2 cap2 (zs) := Rd.nx (by repeat (first | with_reducible exact Sz | with_reducible apply Rd.al | with_reducible apply Rd.dr | with_reducible apply Rd.dr1)) hb
    replace Sd : Rd u7 pd qd (jd) := Rd.nx (by repeat (first | with_reducible exact Sd | with_reducible apply Rd.al | with_reducible apply Rd.dr | with_reducible apply Rd.dr1)) hb
    replace Sm : Rd u7 pm qm (jm) := Rd.nx (by repeat (first | with_reducible exact Sm | with_reducible apply Rd.al | with_reducible apply Rd.dr | with_reducible apply Rd.dr1)) hb
    replace Sm2 : Rd u7 pm2 qm2 (jm2) := Rd.nx (by repeat (first | with_reducible exact Sm2 | with_reducible apply Rd.al | with_reducible apply Rd.dr | with_reducible apply Rd.dr1)) hb
    replace K : Kp w u7 := Kp.nx (by repeat (first | with_reducible exact K | with_reducible apply Kp.al | with_reducible apply Kp.dr | with_reducible apply Kp.dr1)) hb
    have Sd3 : Rd u7 pd3 qd3 (jd3) := ho.rd
    clear ho hb
    obtain ⟨jm3, hjm3⟩ : ∃ z : List Nat, z = L ((V zs) * (Nat.gcd (V xs) (V ys))) := ⟨_, rfl⟩
    have Nm3 : Hid (V jm3 = (V zs) * (Nat.gcd (V xs) (V ys))) := Lib.hid (by rw [hjm3, V_L])
    have ljm3 : jm3.length ≤ 9000 := Nat.le_trans (NR.len_of hjm3 (fz.mul (QL.fgcd fx fy))) (by first | decide | omega)
    have Hm3 := Lib.hid hjm3; clear hjm3
    go_wp2_with fail
    refine (NR.mul (zs := jm3) (xs := zs) (ys := jd) (by repeat (first | with_reducible exact Sz | with_reducible apply Rd.al | with_reducible apply Rd.dr | with_reducible apply Rd.dr1)) (by repeat (first | with_reducible exact Sd | with_reducible apply Rd.al | with_reducible apply Rd.dr | with_reducible apply Rd.dr1)) rfl rfl (by omega) (by omega) (Hm3.out.trans (congrArg L (by first | with_reducible rfl | simp only [Nd.out, LN.V_nil, LN.V_one])))).mono ?_; rintro e u8 ⟨pm3, qm3, rfl, ho, hb⟩
    replace Sx : Rd u8 a0 cap0 (xs) := Rd.nx (by repeat (first | with_reducible exact Sx | with_reducible apply Rd.al | with_reducible apply Rd.dr | with_reducible apply Rd.dr1)) hb
    replace Sy : Rd u8 a1 cap1 (ys) := Rd.nx (by repeat (first | with_reducible exact Sy | with_reducible apply Rd.al | with_reducible apply Rd.dr | with_reducible apply Rd.dr1)) hb
    replace Sz : Rd u8 a2 cap2 (zs) := Rd.nx (by repeat (first | with_reducible exact Sz | with_reducible apply Rd.al | with_reducible apply Rd.dr | with_reducible apply Rd.dr1)) hb
    replace Sd : Rd u8 pd qd (jd) := Rd.nx (by repeat (first | with_reducible exact Sd | with_reducible apply Rd.al | with_reducible apply Rd.dr | with_reducible apply Rd.dr1)) hb
    replace Sm : Rd u8 pm qm (jm) := Rd.nx (by repeat (first | with_reducible exact Sm | with_reducible apply Rd.al | with_reducible apply Rd.dr | with_reducible apply Rd.dr1)) hb
    replace Sm2 : Rd u8 pm2 qm2 (jm2) := Rd.nx (by repeat (first | with_reducible exact Sm2 | with_reducible apply Rd.al | with_reducible apply Rd.dr | with_reducible apply Rd.dr1)) hb
    replace Sd3 : Rd u8 pd3 qd3 (jd3) := Rd.nx (by repeat (first | with_reducible exact Sd3 | with_reducible apply Rd.al | with_reducible apply Rd.dr | with_reducible apply Rd.dr1)) hb
    replace K : Kp w u8 := Kp.nx (by repeat (first | with_reducible exact K | with_reducible apply Kp.al | with_reducible apply Kp.dr | with_reducible apply Kp.dr1)) hb
    have Sm3 : Rd u8 pm3 qm3 (jm3) := ho.rd
    clear ho hb
    go_wp2_with fail
    refine (QL.same_yes (xs := jd3) (ys := jm3) (by repeat (first | with_reducible exact Sd3 | with_reducible apply Rd.al | with_reducible apply Rd.dr | with_reducible apply Rd.dr1)) (by repeat (first | with_reducible exact Sm3 | with_reducible apply Rd.al | with_reducible apply Rd.dr | with_reducible apply Rd.dr1)) rfl rfl (by omega) (Hd3.out.trans ((congrArg L (Nat.gcd_mul_left _ _ _)).trans Hm3.out.symm))).mono ?_; rintro e u9 ⟨rfl, hb⟩
    replace Sx : Rd u9 a0 cap0 (xs) := Rd.nx (by repeat (first | with_reducible exact Sx | with_reducible apply Rd.al | with_reducible apply Rd.dr | with_reducible apply Rd.dr1)) hb
    replace Sy : Rd u9 a1 cap1 (ys) := Rd.nx (by repeat (first | with_reducible exact Sy | with_reducible apply Rd.al | with_reducible apply Rd.dr | with_reducible apply Rd.dr1)) hb
    replace Sz : Rd u9 a2 cap2 (zs) := Rd.nx (by repeat (first | with_reducible exact Sz | with_reducible apply Rd.al | with_reducible apply Rd.dr | with_reducible apply Rd.dr1)) hb
    replace Sd : Rd u9 pd qd (jd) := Rd.nx (by repeat (first | with_reducible exact Sd | with_reducible apply Rd.al | with_reducible apply Rd.dr | with_reducible apply Rd.dr1)) hb
    replace Sm : Rd u9 pm qm (jm) := Rd.nx (by repeat (first | with_reducible exact Sm | with_reducible apply Rd.al | with_reducible apply Rd.dr | with_reducible apply Rd.dr1)) hb
    replace Sm2 : Rd u9 pm2 qm2 (jm2) := Rd.nx (by repeat (first | with_reducible exact Sm2 | with_reducible apply Rd.al | with_reducible apply Rd.dr | with_reducible apply Rd.dr1)) hb
    replace Sd3 : Rd u9 pd3 qd3 (jd3) := Rd.nx (by repeat (first | with_reducible exact Sd3 | with_reducible apply Rd.al | with_reducible apply Rd.dr | with_reducible apply Rd.dr1)) hb
    replace Sm3 : Rd u9 pm3 qm3 (jm3) := Rd.nx (by repeat (first | with_reducible exact Sm3 | with_reducible apply Rd.al | with_reducible apply Rd.dr | with_reducible apply Rd.dr1)) hb
    replace K : Kp w u9 := Kp.nx (by repeat (first | with_reducible exact K | with_reducible apply Kp.al | with_reducible apply Kp.dr | with_reducible apply Kp.dr1)) hb
    clear hb
    clear Sm
    clear Sm2
    clear Sd3
    clear Sm3
    go_wp2_with fail
    refine (NR.zero (xs := ys) (by repeat (first | with_reducible exact Sy | with_reducible apply Rd.al | with_reducible apply Rd.dr | with_reducible apply Rd.dr1)) rfl (by omega) false (by have := HY.out; symm; rw [beq_eq_false_iff_ne]; exact this)).mono ?_; rintro e w' ⟨rfl, rfl⟩
    obtain ⟨jq, hjq⟩ : ∃ z : List Nat, z = L ((V xs) / (V ys)) := ⟨_, rfl⟩
    have Nq : Hid (V jq = (V xs) / (V ys)) := Lib.hid (by rw [hjq, V_L])
    have ljq : jq.length ≤ 9000 := Nat.le_trans (NR.len_of hjq (fx.div _)) (by first | decide | omega)
    have Hq := Lib.hid hjq; clear hjq
    obtain ⟨jr, hjr⟩ : ∃ z : List Nat, z = L ((V xs) % (V ys)) := ⟨_, rfl⟩
    have Nr : Hid (V jr = (V xs) % (V ys)) := Lib.hid (by rw [hjr, V_L])
    have ljr : jr.length ≤ 9000 := Nat.le_trans (NR.len_of hjr (fx.mono (Nat.mod_le _ _))) (by first | decide | omega)
    have Hr := Lib.hid hjr; clear hjr
    go_wp2_with fail
    refine (QR.div1 (xs := xs) (ys := ys) (by repeat (first | with_reducible exact Sx | with_reducible apply Rd.al | with_reducible apply Rd.dr | with_reducible apply Rd.dr1)) (by repeat (first | with_reducible exact Sy | with_reducible apply Rd.al | with_reducible apply Rd.dr | with_reducible apply Rd.dr1)) rfl rfl (by omega) (by omega) jq jr 0 (Hq.out.trans (congrArg L (by first | with_reducible rfl | simp only [LN.V_nil, LN.V_one]))) (QL.drL_of HY.out (Hr.out.trans (congrArg L (by first | with_reducible rfl | simp only [LN.V_nil, LN.V_one])))) (QL.dE_of HY.out)).mono ?_; rintro e u10 ⟨pq, qq, pr, qr, rfl, ho, ho2, _, hb⟩
    replace Sx : Rd u10 a0 cap0 (xs) := Rd.nx (by repeat (first | with_reducible exact Sx | with_reducible apply Rd.al | with_reducible apply Rd.dr | with_reducible apply Rd.dr1)) hb
    replace Sy : Rd u10 a1 cap1 (ys) := Rd.nx (by repeat (first | with_reducible exact Sy | with_reducible apply Rd.al | with_reducible apply Rd.dr | with_reducible apply Rd.dr1)) hb
    replace Sz : Rd u10 a2 cap2 (zs) := Rd.nx (by repeat (first | with_reducible exact Sz | with_reducible apply Rd.al | with_reducible apply Rd.dr | with_reducible apply Rd.dr1)) hb
    replace Sd : Rd u10 pd qd (jd) := Rd.nx (by repeat (first | with_reducible exact Sd | with_reducible apply Rd.al | with_reducible apply Rd.dr | with_reducible apply Rd.dr1)) hb
    replace K : Kp w u10 := Kp.nx (by repeat (first | with_reducible exact K | with_reducible apply Kp.al | with_reducible apply Kp.dr | with_reducible apply Kp.dr1)) hb
    have Sq : Rd u10 pq qq (jq) := ho.rd
    have Sr : Rd u10 pr qr (jr) := ho2.rd
    clear ho ho2 hb
    obtain ⟨jp, hjp⟩ : ∃ z : List Nat, z = L ((V xs) / (Nat.gcd (V xs) (V ys))) := ⟨_, rfl⟩
    have Np : Hid (V jp = (V xs) / (Nat.gcd (V xs) (V ys))) := Lib.hid (by rw [hjp, V_L])
    have ljp : jp.length ≤ 9000 := Nat.le_trans (NR.len_of hjp (fx.div _)) (by first | decide | omega)
    have Hp := Lib.hid hjp; clear hjp
    go_wp2_with fail
    refine (QR.div1 (xs := xs) (ys := jd) (by repeat (first | with_reducible exact Sx | with_reducible apply Rd.al | with_reducible apply Rd.dr | with_reducible apply Rd.dr1)) (by repeat (first | with_reducible exact Sd | with_reducible apply Rd.al | with_reducible apply Rd.dr | with_reducible apply Rd.dr1)) rfl rfl (by omega) (by omega) jp [] 0 (Hp.out.trans (congrArg L (by first | with_reducible rfl | simp only [Nd.out, LN.V_nil, LN.V_one]))) (QL.drL_of (by simp only [Nd.out, LN.V_nil, LN.V_one]; exact (gne _ _ HY.out)) (by simp only [Nd.out, LN.V_nil]; rw [gl]; rfl)) (QL.dE_of (by simp only [Nd.out, LN.V_nil, LN.V_one]; exact (gne _ _ HY.out)))).mono ?_; rintro e u11 ⟨pp, qp, ps, qs, rfl, ho, ho2, _, hb⟩
    replace Sx : Rd u11 a0 cap0 (xs) := Rd.nx (by repeat (first | with_reducible exact Sx | with_reducible apply Rd.al | with_reducible apply Rd.dr | with_reducible apply Rd.dr1)) hb
    replace Sy : Rd u11 a1 cap1 (ys) := Rd.nx (by repeat (first | with_reducible exact Sy | with_reducible apply Rd.al | with_reducible apply Rd.dr | with_reducible apply Rd.dr1)) hb
    replace Sz : Rd u11 a2 cap2 (zs) := Rd.nx (by repeat (first | with_reducible exact Sz | with_reducible apply Rd.al | with_reducible apply Rd.dr | with_reducible apply Rd.dr1)) hb
    replace Sd : Rd u11 pd qd (jd) := Rd.nx (by repeat (first | with_reducible exact Sd | with_reducible apply Rd.al | with_reducible apply Rd.dr | with_reducible apply Rd.dr1)) hb
    replace Sq : Rd u11 pq qq (jq) := Rd.nx (by repeat (first | with_reducible exact Sq | with_reducible apply Rd.al | with_reducible apply Rd.dr | with_reducible apply Rd.dr1)) hb
    replace Sr : Rd u11 pr qr (jr) := Rd.nx (by repeat (first | with_reducible exact Sr | with_reducible apply Rd.al | with_reducible apply Rd.dr | with_reducible apply Rd.dr1)) hb
    replace K : Kp w u11 := Kp.nx (by repeat (first | with_reducible exact K | with_reducible apply Kp.al | with_reducible apply Kp.dr | with_reducible apply Kp.dr1)) hb
    have Sp : Rd u11 pp qp (jp) := ho.rd
    have Ss : Rd u11 ps qs ([]) := ho2.rd
    clear ho ho2 hb
    obtain ⟨ju, hju⟩ : ∃ z : List Nat, z = L ((V ys) / (Nat.gcd (V xs) (V ys))) := ⟨_, rfl⟩
    have Nu : Hid (V ju = (V ys) / (Nat.gcd (V xs) (V ys))) := Lib.hid (by rw [hju, V_L])
    have lju : ju.length ≤ 9000 := Nat.le_trans (NR.len_of hju (fy.div _)) (by first | decide | omega)
    have Hu := Lib.hid hju; clear hju
    go_wp2_with fail
    refine (QR.div1 (xs := ys) (ys := jd) (by repeat (first | with_reducible exact Sy | with_reducible apply Rd.al | with_reducible apply Rd.dr | with_reducible apply Rd.dr1)) (by repeat (first | with_reducible exact Sd | with_reducible apply Rd.al | with_reducible apply Rd.dr | with_reducible apply Rd.dr1)) rfl rfl (by omega) (by omega) ju [] 0 (Hu.out.trans (congrArg L (by first | with_reducible rfl | simp only [Nd.out, LN.V_nil, LN.V_one]))) (QL.drL_of (by simp only [Nd.out, LN.V_nil, LN.V_one]; exact (gne _ _ HY.out)) (by simp only [Nd.out, LN.V_nil]; rw [gr]; rfl)) (QL.dE_of (by simp only [Nd.out, LN.V_nil, LN.V_one]; exact (gne _ _ HY.out)))).mono ?_; rintro e u12 ⟨pu, qu, pt, qt, rfl, ho, ho2, _, hb⟩
    replace Sx : Rd u12 a0 cap0 (xs) := Rd.nx (by repeat (first | with_reducible exact Sx | with_reducible apply Rd.al | with_reducible apply Rd.dr | with_reducible apply Rd.dr1)) hb
    replace Sy : Rd u12 a1 cap1 (ys) := Rd.nx (by repeat (first | with_reducible exact Sy | with_reducible apply Rd.al | with_reducible apply Rd.dr | with_reducible apply Rd.dr1)) hb
    replace Sz : Rd u12 a2 cap2 (zs) := Rd.nx (by repeat (first | with_reducible exact Sz | with_reducible apply Rd.al | with_reducible apply Rd.dr | with_reducible apply Rd.dr1)) hb
    replace Sd : Rd u12 pd qd (jd) := Rd.nx (by repeat (first | with_reducible exact Sd | with_reducible apply Rd.al | with_reducible apply Rd.dr | with_reducible apply Rd.dr1)) hb
    replace Sq : Rd u12 pq qq (jq) := Rd.nx (by repeat (first | with_reducible exact Sq | with_reducible apply Rd.al | with_reducible apply Rd.dr | with_reducible apply Rd.dr1)) hb
    replace Sr : Rd u12 pr qr (jr) := Rd.nx (by repeat (first | with_reducible exact Sr | with_reducible apply Rd.al | with_reducible apply Rd.dr | with_reducible apply Rd.dr1)) hb
    replace Sp : Rd u12 pp qp (jp) := Rd.nx (by repeat (first | with_reducible exact Sp | with_reducible apply Rd.al | with_reducible apply Rd.dr | with_reducible apply Rd.dr1)) hb
    replace Ss : Rd u12 ps qs ([]) := Rd.nx (by repeat (first | with_reducible exact Ss | with_reducible apply Rd.al | with_reducible apply Rd.dr | with_reducible apply Rd.dr1)) hb
    replace K : Kp w u12 := Kp.nx (by repeat (first | with_reducible exact K | with_reducible apply Kp.al | with_reducible apply Kp.dr | with_reducible apply Kp.dr1)) hb
    have Su : Rd u12 pu qu (ju) := ho.rd
    have St : Rd u12 pt qt ([]) := ho2.rd
    clear ho ho2 hb
    obtain ⟨jd4, hjd4⟩ : ∃ z : List Nat, z = L (Nat.gcd (V ys) ((V xs) % (V ys))) := ⟨_, rfl⟩
    have Nd4 : Hid (V jd4 = Nat.gcd (V ys) ((V xs) % (V ys))) := Lib.hid (by rw [hjd4, V_L])
    have ljd4 : jd4.length ≤ 9000 := Nat.le_trans (NR.len_of hjd4 (QL.fgcd fy (fx.mono (Nat.mod_le _ _)))) (by first | decide | omega)
    have Hd4 := Lib.hid hjd4; clear hjd4
    go_wp2_with fail
    refine (QR.gcd1 (zs := jd4) (xs := ys) (ys := jr) (by repeat (first | with_reducible exact Sy | with_reducible apply Rd.al | with_reducible apply Rd.dr | with_reducible apply Rd.dr1)) (by repeat (first | with_reducible exact Sr | with_reducible apply Rd.al | with_reducible apply Rd.dr | with_reducible apply Rd.dr1)) rfl rfl (by omega) (by omega) (Hd4.out.trans (congrArg L (by first | with_reducible rfl | simp only [Nr.out, LN.V_nil, LN.V_one])))).mono ?_; rintro e u13 ⟨pd4, qd4, rfl, ho, hb⟩
    replace Sx : Rd u13 a0 cap0 (xs) := Rd.nx (by repeat (first | with_reducible exact Sx | with_reducible apply Rd.al | with_reducible apply Rd.dr | with_reducible apply Rd.dr1)) hb
    replace Sy : Rd u13 a1 cap1 (ys) := Rd.nx (by repeat (first | with_reducible exact Sy | with_reducible apply Rd.al | with_reducible apply Rd.dr | with_reducible apply Rd.dr1)) hb
    replace Sz : Rd u13 a2 cap2 (zs) := Rd.nx (by repeat (first | with_reducible exact Sz | with_reducible apply Rd.al | with_reducible apply Rd.dr | with_reducible apply Rd.dr1)) hb
    replace Sd : Rd u13 pd qd (jd) := Rd.nx (by repeat (first | with_reducible exact Sd | with_reducible apply Rd.al | with_reducible apply Rd.dr | with_reducible apply Rd.dr1)) hb
    replace Sq : Rd u13 pq qq (jq) := Rd.nx (by repeat (first | with_reducible exact Sq | with_reducible apply Rd.al | with_reducible apply Rd.dr | with_reducible apply Rd.dr1)) hb
    replace Sr : Rd u13 pr qr (jr) := Rd.nx (by repeat (first | with_reducible exact Sr | with_reducible apply Rd.al | with_reducible apply Rd.dr | with_reducible apply Rd.dr1)) hb
    replace Sp : Rd u13 pp qp (jp) := Rd.nx (by repeat (first | with_reducible exact Sp | with_reducible apply Rd.al | with_reducible apply Rd.dr | with_reducible apply Rd.dr1)) hb
    replace Ss : Rd u13 ps qs ([]) := Rd.nx (by repeat (first | with_reducible exact Ss | with_reducible apply Rd.al | with_reducible apply Rd.dr | with_reducible apply Rd.dr1)) hb
    replace Su : Rd u13 pu qu (ju) := Rd.nx (by repeat (first | with_reducible exact Su | with_reducible apply Rd.al | with_reducible apply Rd.dr | with_reducible apply Rd.dr1)) hb
    replace St : Rd u13 pt qt ([]) := Rd.nx (by repeat (first | with_reducible exact St | with_reducible apply Rd.al | with_reducible apply Rd.dr | with_reducible apply Rd.dr1)) hb
    replace K : Kp w u13 := Kp.nx (by repeat (first | with_reducible exact K | with_reducible apply Kp.al | with_reducible apply Kp.dr | with_reducible apply Kp.dr1)) hb
    have Sd4 : Rd u13 pd4 qd4 (jd4) := ho.rd
    clear ho hb
    go_wp2_with fail
    refine (QL.same_yes (xs := jd4) (ys := jd) (by repeat (first | with_reducible exact Sd4 | with_reducible apply Rd.al | with_reducible apply Rd.dr | with_reducible apply Rd.dr1)) (by repeat (first | with_reducible exact Sd | with_reducible apply Rd.al | with_reducible apply Rd.dr | with_reducible apply Rd.dr1)) rfl rfl (by omega) (Hd4.out.trans ((congrArg L (grec _ _)).trans Hd.out.symm))).mono ?_; rintro e u14 ⟨rfl, hb⟩
    replace Sx : Rd u14 a0 cap0 (xs) := Rd.nx (by repeat (first | with_reducible exact Sx | with_reducible apply Rd.al | with_reducible apply Rd.dr | with_reducible apply Rd.dr1)) hb
    replace Sy : Rd u14 a1 cap1 (ys) := Rd.nx (by repeat (first | with_reducible exact Sy | with_reducible apply Rd.al | with_reducible apply Rd.dr | with_reducible apply Rd.dr1)) hb
    replace Sz : Rd u14 a2 cap2 (zs) := Rd.nx (by repeat (first | with_reducible exact Sz | with_reducible apply Rd.al | with_reducible apply Rd.dr | with_reducible apply Rd.dr1)) hb
    replace Sd : Rd u14 pd qd (jd) := Rd.nx (by repeat (first | with_reducible exact Sd | with_reducible apply Rd.al | with_reducible apply Rd.dr | with_reducible apply Rd.dr1)) hb
    replace Sq : Rd u14 pq qq (jq) := Rd.nx (by repeat (first | with_reducible exact Sq | with_reducible apply Rd.al | with_reducible apply Rd.dr | with_reducible apply Rd.dr1)) hb
    replace Sr : Rd u14 pr qr (jr) := Rd.nx (by repeat (first | with_reducible exact Sr | with_reducible apply Rd.al | with_reducible apply Rd.dr | with_reducible apply Rd.dr1)) hb
    replace Sp : Rd u14 pp qp (jp) := Rd.nx (by repeat (first | with_reducible exact Sp | with_reducible apply Rd.al | with_reducible apply Rd.dr | with_reducible apply Rd.dr1)) hb
    replace Ss : Rd u14 ps qs ([]) := Rd.nx (by repeat (first | with_reducible exact Ss | with_reducible apply Rd.al | with_reducible apply Rd.dr | with_reducible apply Rd.dr1)) hb
    replace Su : Rd u14 pu qu (ju) := Rd.nx (by repeat (first | with_reducible exact Su | with_reducible apply Rd.al | with_reducible apply Rd.dr | with_reducible apply Rd.dr1)) hb
    replace St : Rd u14 pt qt ([]) := Rd.nx (by repeat (first | with_reducible exact St | with_reducible apply Rd.al | with_reducible apply Rd.dr | with_reducible apply Rd.dr1)) hb
    replace Sd4 : Rd u14 pd4 qd4 (jd4) := Rd.nx (by repeat (first | with_reducible exact Sd4 | with_reducible apply Rd.al | with_reducible apply Rd.dr | with_reducible apply Rd.dr1)) hb
    replace K : Kp w u14 := Kp.nx (by repeat (first | with_reducible exact K | with_reducible apply Kp.al | with_reducible apply Kp.dr | with_reducible apply Kp.dr1)) hb
    clear hb
    obtain ⟨jd5, hjd5⟩ : ∃ z : List Nat, z = L (Nat.gcd ((V xs) / (Nat.gcd (V xs) (V ys))) ((V ys) / (Nat.gcd (V xs) (V ys)))) := ⟨_, rfl⟩
    have Nd5 : Hid (V jd5 = Nat.gcd ((V xs) / (Nat.gcd (V xs) (V ys))) ((V ys) / (Nat.gcd (V xs) (V ys)))) := Lib.hid (by rw [hjd5, V_L])
    have ljd5 : jd5.length ≤ 9000 := Nat.le_trans (NR.len_of hjd5 (QL.fgcd (fx.div _) (fy.div _))) (by first | decide | omega)
    have Hd5 := Lib.hid hjd5; clear hjd5
    go_wp2_with fail
    refine (QR.gcd1 (zs := jd5) (xs := jp) (ys := ju) (by repeat (first | with_reducible exact Sp | with_reducible apply Rd.al | with_reducible apply Rd.dr | with_reducible apply Rd.dr1)) (by repeat (first | with_reducible exact Su | with_reducible apply Rd.al | with_reducible apply Rd.dr | with_reducible apply Rd.dr1)) rfl rfl (by omega) (by omega) (Hd5.out.trans (congrArg L (by first | with_reducible rfl | simp only [Np.out, Nu.out, LN.V_nil, LN.V_one])))).mono ?_; rintro e u15 ⟨pd5, qd5, rfl, ho, hb⟩
    replace Sx : Rd u15 a0 cap0 (xs) := Rd.nx (by repeat (first | with_reducible exact Sx | with_reducible apply Rd.al | with_reducible apply Rd.dr | with_reducible apply Rd.dr1)) hb
    replace Sy : Rd u15 a1 cap1 (ys) := Rd.nx (by repeat (first | with_reducible exact Sy | with_reducible apply Rd.al | with_reducible apply Rd.dr | with_reducible apply Rd.dr1)) hb
    replace Sz : Rd u15 a2 cap2 (zs) := Rd.nx (by repeat (first | with_reducible exact Sz | with_reducible apply Rd.al | with_reducible apply Rd.dr | with_reducible apply Rd.dr1)) hb
    replace Sd : Rd u15 pd qd (jd) := Rd.nx (by repeat (first | with_reducible exact Sd | with_reducible apply Rd.al | with_reducible apply Rd.dr | with_reducible apply Rd.dr1)) hb
    replace Sq : Rd u15 pq qq (jq) := Rd.nx (by repeat (first | with_reducible exact Sq | with_reducible apply Rd.al | with_reducible apply Rd.dr | with_reducible apply Rd.dr1)) hb
    replace Sr : Rd u15 pr qr (jr) := Rd.nx (by repeat (first | with_reducible exact Sr | with_reducible apply Rd.al | with_reducible apply Rd.dr | with_reducible apply Rd.dr1)) hb
    replace Sp : Rd u15 pp qp (jp) := Rd.nx (by repeat (first | with_reducible exact Sp | with_reducible apply Rd.al | with_reducible apply Rd.dr | with_reducible apply Rd.dr1)) hb
    replace Ss : Rd u15 ps qs ([]) := Rd.nx (by repeat (first | with_reducible exact Ss | with_reducible apply Rd.al | with_reducible apply Rd.dr | with_reducible apply Rd.dr1)) hb
    replace Su : Rd u15 pu qu (ju) := Rd.nx (by repeat (first | with_reducible exact Su | with_reducible apply Rd.al | with_reducible apply Rd.dr | with_reducible apply Rd.dr1)) hb
    replace St : Rd u15 pt qt ([]) := Rd.nx (by repeat (first | with_reducible exact St | with_reducible apply Rd.al | with_reducible apply Rd.dr | with_reducible apply Rd.dr1)) hb
    replace Sd4 : Rd u15 pd4 qd4 (jd4) := Rd.nx (by repeat (first | with_reducible exact Sd4 | with_reducible apply Rd.al | with_reducible apply Rd.dr | with_reducible apply Rd.dr1)) hb
    replace K : Kp w u15 := Kp.nx (by repeat (first | with_reducible exact K | with_reducible apply Kp.al | with_reducible apply Kp.dr | with_reducible apply Kp.dr1)) hb
    have Sd5 : Rd u15 pd5 qd5 (jd5) := ho.rd
    clear ho hb
    go_wp2_with fail
    refine (QL.same_yes (xs := jd5) (ys := [1]) (by repeat (first | with_reducible exact Sd5 | with_reducible apply Rd.al | with_reducible apply Rd.dr | with_reducible apply Rd.dr1)) (by repeat (first | exact Rd.litn [1] #[.int .u64 1] (ws_of _ (by decide +kernel)) rfl (by decide) (by simp) | with_reducible apply Rd.al)) rfl rfl (by omega) (Hd5.out.trans ((congrArg L (gone _ _ HY.out)).trans one_L.symm))).mono ?_; rintro e u16 ⟨rfl, hb⟩
    replace Sx : Rd u16 a0 cap0 (xs) := Rd.nx (by repeat (first | with_reducible exact Sx | with_reducible apply Rd.al | with_reducible apply Rd.dr | with_reducible apply Rd.dr1)) hb
    replace Sy : Rd u16 a1 cap1 (ys) := Rd.nx (by repeat (first | with_reducible exact Sy | with_reducible apply Rd.al | with_reducible apply Rd.dr | with_reducible apply Rd.dr1)) hb
    replace Sz : Rd u16 a2 cap2 (zs) := Rd.nx (by repeat (first | with_reducible exact Sz | with_reducible apply Rd.al | with_reducible apply Rd.dr | with_reducible apply Rd.dr1)) hb
    replace Sd : Rd u16 pd qd (jd) := Rd.nx (by repeat (first | with_reducible exact Sd | with_reducible apply Rd.al | with_reducible apply Rd.dr | with_reducible apply Rd.dr1)) hb
    replace Sq : Rd u16 pq qq (jq) := Rd.nx (by repeat (first | with_reducible exact Sq | with_reducible apply Rd.al | with_reducible apply Rd.dr | with_reducible apply Rd.dr1)) hb
    replace Sr : Rd u16 pr qr (jr) := Rd.nx (by repeat (first | with_reducible exact Sr | with_reducible apply Rd.al | with_reducible apply Rd.dr | with_reducible apply Rd.dr1)) hb
    replace Sp : Rd u16 pp qp (jp) := Rd.nx (by repeat (first | with_reducible exact Sp | with_reducible apply Rd.al | with_reducible apply Rd.dr | with_reducible apply Rd.dr1)) hb
    replace Ss : Rd u16 ps qs ([]) := Rd.nx (by repeat (first | with_reducible exact Ss | with_reducible apply Rd.al | with_reducible apply Rd.dr | with_reducible apply Rd.dr1)) hb
    replace Su : Rd u16 pu qu (ju) := Rd.nx (by repeat (first | with_reducible exact Su | with_reducible apply Rd.al | with_reducible apply Rd.dr | with_reducible apply Rd.dr1)) hb
    replace St : Rd u16 pt qt ([]) := Rd.nx (by repeat (first | with_reducible exact St | with_reducible apply Rd.al | with_reducible apply Rd.dr | with_reducible apply Rd.dr1)) hb
    replace Sd4 : Rd u16 pd4 qd4 (jd4) := Rd.nx (by repeat (first | with_reducible exact Sd4 | with_reducible apply Rd.al | with_reducible apply Rd.dr | with_reducible apply Rd.dr1)) hb
    replace Sd5 : Rd u16 pd5 qd5 (jd5) := Rd.nx (by repeat (first | with_reducible exact Sd5 | with_reducible apply Rd.al | with_reducible apply Rd.dr | with_reducible apply Rd.dr1)) hb
    replace K : Kp w u16 := Kp.nx (by repeat (first | with_reducible exact K | with_reducible apply Kp.al | with_reducible apply Kp.dr | with_reducible apply Kp.dr1)) hb
    clear hb
    go_wp2_with fail
    go_ret
    exact ⟨rfl, Kp.below (by repeat (first | with_reducible exact K | with_reducible apply Kp.al | with_reducible apply Kp.dr | with_reducible apply Kp.dr1))⟩

/-! ### THE ROW's STEP: WRITTEN OUT: LEAVE IT -/
set_option maxRecDepth 100000 in
theorem lifted (os : Os) (started : os.Started) (H : Type) (enc : TypeId × Value → H) :
    ReturnsInHanded {} Try.checked os 8 .any (Rows.quoDivisorsSpec.pre6 enc Try.prog Try.f8 Rows.quoDivisorsRow.domain false) (Rows.quoDivisorsSpec.post enc Try.prog Try.f8 false true false false) := by
  refine returnsInHanded_of_change (C := Try.checked) own started (by kernel_rfl) Try.func8
    (ChangeSpec.witness6 (enc := enc) (C := Try.checked) false ⟨#[], #[.slice none 0 0, .slice none 0 0, .slice none 0 0], []⟩ 8 (by kernel_rfl) (by kernel_rfl) (by kernel_rfl) (by kernel_rfl)) ?_
  intro W base args ds gs before hval0 hW hcnd _
  have hval : ∀ (j : Nat) t v, Try.f8.params[j]? = some t → args[j]? = some v → Value.okWide Try.prog W .any base t v := hval0
  have hW' := hW
  obtain ⟨p, q, hA0, hV, rfl, hfz, hnd⟩ := hW
  have hA : DataW.TrodAll enc Try.prog W 0 (fun _ => true) true Try.f8.params.toList args.toList ds p := hA0
  rw [Try.params8] at hA hval
  obtain ⟨v0, vs0, d0, ds0, p0, q0, hargs, rfl, rfl, h0, r0⟩ := trodAll_cons hA
  obtain ⟨v1, vs1, d1, ds1, p1, q1, rfl, rfl, rfl, h1, r1⟩ := trodAll_cons r0
  obtain ⟨v2, vs2, d2, ds2, p2, q2, rfl, rfl, rfl, h2, r2⟩ := trodAll_cons r1
  obtain ⟨rfl, rfl, rfl⟩ := trodAll_nil r2
  obtain rfl : args = #[v0, v1, v2] := by cases args; simp_all
  obtain ⟨rfl, rfl⟩ := trodVars_none hV
  obtain ⟨a0, len0, cap0, rfl⟩ := okWide_slice Try.underlying23 (hval 0 23 v0 rfl rfl)
  have k0 := h0
  have lt0 : ∀ x ∈ p0, x.block < W.heap.size := by obtain ⟨m, hm⟩ := k0; exact DataW.trod_lt m _ _ _ hm
  obtain ⟨z0, w0⟩ : ∃ zs, IsRow .u64 W a0 len0 cap0 zs := by
    obtain ⟨fuel, hf⟩ := h0
    rcases open_ints Try.underlying23 Try.underlying36 (by kernel_rfl) hf with ⟨hcs, _⟩ | ⟨x, l, c, zs, hcs, _, hl, hm, hz, _, hcell, hwz⟩
    · simp [Value.cells] at hcs
      obtain ⟨rfl, rfl, rfl⟩ := hcs
      exact ⟨[], .inl ⟨rfl, rfl, rfl, rfl⟩⟩
    · simp [Value.cells] at hcs
      obtain ⟨rfl, rfl, rfl⟩ := hcs
      exact ⟨zs, .inr ⟨_, rfl, hl, hm, by simpa using hz, hcell, hwz⟩⟩
  obtain ⟨a1, len1, cap1, rfl⟩ := okWide_slice Try.underlying23 (hval 1 23 v1 rfl rfl)
  have k1 := h1
  have lt1 : ∀ x ∈ p1, x.block < W.heap.size := by obtain ⟨m, hm⟩ := k1; exact DataW.trod_lt m _ _ _ hm
  obtain ⟨z1, w1⟩ : ∃ zs, IsRow .u64 W a1 len1 cap1 zs := by
    obtain ⟨fuel, hf⟩ := h1
    rcases open_ints Try.underlying23 Try.underlying36 (by kernel_rfl) hf with ⟨hcs, _⟩ | ⟨x, l, c, zs, hcs, _, hl, hm, hz, _, hcell, hwz⟩
    · simp [Value.cells] at hcs
      obtain ⟨rfl, rfl, rfl⟩ := hcs
      exact ⟨[], .inl ⟨rfl, rfl, rfl, rfl⟩⟩
    · simp [Value.cells] at hcs
      obtain ⟨rfl, rfl, rfl⟩ := hcs
      exact ⟨zs, .inr ⟨_, rfl, hl, hm, by simpa using hz, hcell, hwz⟩⟩
  obtain ⟨a2, len2, cap2, rfl⟩ := okWide_slice Try.underlying23 (hval 2 23 v2 rfl rfl)
  have k2 := h2
  have lt2 : ∀ x ∈ p2, x.block < W.heap.size := by obtain ⟨m, hm⟩ := k2; exact DataW.trod_lt m _ _ _ hm
  obtain ⟨z2, w2⟩ : ∃ zs, IsRow .u64 W a2 len2 cap2 zs := by
    obtain ⟨fuel, hf⟩ := h2
    rcases open_ints Try.underlying23 Try.underlying36 (by kernel_rfl) hf with ⟨hcs, _⟩ | ⟨x, l, c, zs, hcs, _, hl, hm, hz, _, hcell, hwz⟩
    · simp [Value.cells] at hcs
      obtain ⟨rfl, rfl, rfl⟩ := hcs
      exact ⟨[], .inl ⟨rfl, rfl, rfl, rfl⟩⟩
    · simp [Value.cells] at hcs
      obtain ⟨rfl, rfl, rfl⟩ := hcs
      exact ⟨zs, .inr ⟨_, rfl, hl, hm, by simpa using hz, hcell, hwz⟩⟩
  clear hA0 hval0
  refine (walk a0 len0 cap0 z0 a1 len1 cap1 z1 a2 len2 cap2 z2 W w0 w1 w2).mono fun e W' ⟨he, bel⟩ => ?_
  subst he
  exact ⟨_, rfl, _, _, _, [], _, [], hW', trodAll_mk1 (shut_bool Try.underlying4 _), (trodAll_cons_mk (Below.trod laidOut (by kernel_rfl) (of_decide_eq_true (by kernel_rfl)) k0 bel lt0) (trodAll_cons_mk (Below.trod laidOut (by kernel_rfl) (of_decide_eq_true (by kernel_rfl)) k1 bel lt1) (trodAll_cons_mk (Below.trod laidOut (by kernel_rfl) (of_decide_eq_true (by kernel_rfl)) k2 bel lt2) trodAll_mk0))), rfl, bel.frame _, fun h => by cases h⟩

theorem over : Rows.quoDivisorsRow.holds Try.pinned (OpenSpec.ofChange Rows.quoDivisorsSpec) :=
  OpenClaim.holds_of_wide 8 Try.f8 rfl rfl rfl rfl rfl rfl rfl ⟨rfl, rfl, rfl, rfl, rfl⟩ rfl rfl rfl rfl rfl (by kernel_rfl) Try.func8 (by kernel_rfl)
    (of_decide_eq_true (by kernel_rfl)) (by unfold Func.isWrapper; first | (rw [if_pos (by decide +kernel)]; kernel_rfl) | (rw [if_neg (by decide +kernel)]; exact ⟨rfl, rfl⟩))
    (fun os started H enc _ => lifted os started H enc)

/-- ████ THE STATEMENT ████ -/
theorem proved : Rows.QuoDivisorsSaid := over
#print axioms proved
end Go.Proofs.Ytepndjcncmkkkaa.quoDivisors
