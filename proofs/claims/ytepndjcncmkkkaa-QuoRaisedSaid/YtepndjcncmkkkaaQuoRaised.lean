/- The statement QuoRaised: a power by a sum is the product of the powers; a power of a product is the product of the powers; a power of a power is that by the product; 2 to the power of n is 1, shifted by n. No condition. -/
import Derived.Test.YtepndjcncmkkkaaRows
import Derived.WalkKit
import Derived.ProofKit
import Derived.OpenShut
import Derived.Test.YtepndjcncmkkkaaQuoEnd
import Derived.ShutString
import Derived.ChangeOld
import Derived.Below
namespace Go.Proofs.Ytepndjcncmkkkaa.quoRaised
open Go.ChangeShapes Go.WideShapes Go.ChangeAt Go.RowKit
open Go.Proofs
open Go.ChangeMaps (open_string shut_string)
set_option linter.unusedVariables false

theorem own : ownKnob Try.prog.godebug = none := by kernel_rfl
theorem laidOut : laidOutB Try.prog = true := by kernel_rfl

/-- WHAT THE WALK IS TOLD OF A SLICE OF INTEGERS THAT CAME IN: it is nil; or it leads to a row of 'cap' cells, the numbers 'zs' (the first 'len' are its elements, the rest its spare room), each fitting its kind. -/
def IsRow (k : IntKind) (w : World) (a : Option Addr) (len cap : Nat) (zs : List Int) : Prop :=
  (a = none ∧ len = 0 ∧ cap = 0 ∧ zs = []) ∨
  ∃ x, a = some x ∧ len ≤ cap ∧ cap ≤ maxLen ∧ zs.length = cap ∧ (∀ i, i < zs.length → w.cell? (x.add i) = some (.int k (zs.getD i 0))) ∧ ∀ n ∈ zs, (Lit.int k n).wf = true

open Go.Proofs.NP Go.Proofs.SL Go.Proofs.NR Go.Lib
set_option linter.unusedSimpArgs false
theorem nat8 (a : Int) (h : (Lit.int .u8 a).wf = true) : ∃ n : Nat, a = (n : Int) ∧ n ≤ 255 ∧ Hid (wrap64 (n : Int) = (n : Int)) := by
  have ⟨h0, h1⟩ := bounds_u8 h
  refine ⟨a.toNat, by omega, by omega, Lib.hid ?_⟩
  unfold wrap64; omega
theorem bb {x i n : Nat} (h : Fits x i) (m : Nat) (hi : 64 * i * m ≤ 1048576) (hn : n ≤ m) : bitLen x * n ≤ 1048576 :=
  Nat.le_trans (Nat.mul_le_mul (LN.bitLen_fits h) hn) hi
theorem bp {x k n : Nat} (h : Fits x 3) (hk : k ≤ 9) (hn : n ≤ 9) : bitLen (x ^ k) * n ≤ 1048576 := by
  have h1 := LN.bitLen_fits (QL.fpow h k)
  have h2 : bitLen (x ^ k) * n ≤ 1792 * 9 := Nat.mul_le_mul (by omega) hn
  omega
theorem ipow (x i k : Nat) : (x ^ k) ^ i = x ^ (i * k) := by rw [← Nat.pow_mul, Nat.mul_comm]
theorem two_pow (n : Nat) : V [2] ^ n = 2 ^ n := by rw [show V [2] = 2 by decide +kernel]
theorem one_pow' (n : Nat) : V [1] * 2 ^ n = 2 ^ n := by rw [LN.V_one, Nat.one_mul]

/-! ### STEP 1: THE WALK: the Go text returns true, AND WRITES NOTHING THAT WAS THERE: 'Below w.heap.size w w'' (Derived/Below.lean: '.refl', '.alloc', '.drew', '.setCell' at a new block, '.trans'). Open each 'IsRow' by 'rcases' AHEAD of 'go_enter'; part every test ahead of the walk. -/
set_option maxHeartbeats 8000000 in
set_option maxRecDepth 100000 in
theorem walk (a0 : Option Addr) (len0 cap0 : Nat) (z0 : List Int) (a1 : Option Addr) (len1 cap1 : Nat) (z1 : List Int) (a2 : Int) (a3 : Int) (w : World) (w0 : IsRow .u64 w a0 len0 cap0 z0) (w1 : IsRow .u64 w a1 len1 cap1 z1) (w2 : (Lit.int .u8 a2).wf = true) (w3 : (Lit.int .u8 a3).wf = true) :
    Calls Try.prog 6 #[.slice a0 len0 cap0, .slice a1 len1 cap1, .int .u8 a2, .int .u8 a3] w fun e w' => e = .returned (.bool true) ∧ Below w.heap.size w w' := by
  obtain ⟨xs, rfl, Sx⟩ := QL.rows w0
  obtain ⟨ys, rfl, Sy⟩ := QL.rows w1
  have K : Kp w w := Kp.refl w
  obtain ⟨n, rfl, bn, Hn⟩ := nat8 a2 w2
  obtain ⟨m, rfl, bm, Hm⟩ := nat8 a3 w3
  clear w2 w3
  clear w0 w1
  by_cases hs : ¬ (xs.length ≤ 12 ∧ ys.length ≤ 12)
  · have hz : true = (decide (12 < xs.length) || decide (12 < ys.length)) := by simp; omega
    clear hs
    have HZ := Lib.hid hz; clear hz
    go_enter Try.func6, Try.ntmps6
    go_wp2_with fail
    refine (QL.long2 (by simp) true HZ).mono ?_; rintro e w' ⟨rfl, rfl⟩
    go_wp2_with fail
    refine (QL.awake _).mono ?_; rintro e u1 ⟨rfl, hb⟩
    replace Sx : Rd u1 a0 cap0 (xs) := Rd.nx (by repeat (first | with_reducible exact Sx | with_reducible apply Rd.al | with_reducible apply Rd.dr | with_reducible apply Rd.dr1)) hb
    replace Sy : Rd u1 a1 cap1 (ys) := Rd.nx (by repeat (first | with_reducible exact Sy | with_reducible apply Rd.al | with_reducible apply Rd.dr | with_reducible apply Rd.dr1)) hb
    replace K : Kp w u1 := Kp.nx (by repeat (first | with_reducible exact K | with_reducible apply Kp.al | with_reducible apply Kp.dr | with_reducible apply Kp.dr1)) hb
    clear hb
    go_wp2_with fail
    go_ret
    exact ⟨rfl, Kp.below (by repeat (first | with_reducible exact K | with_reducible apply Kp.al | with_reducible apply Kp.dr | with_reducible apply Kp.dr1))⟩
  obtain ⟨n0, n1⟩ : xs.length ≤ 12 ∧ ys.length ≤ 12 := by omega
  clear hs
  have fx : Fits (V xs) 12 := Fits.of Sx.ws (by omega)
  have fy : Fits (V ys) 12 := Fits.of Sy.ws (by omega)
  have hz : false = (decide (12 < xs.length) || decide (12 < ys.length)) := by simp; omega
  have HZ := Lib.hid hz; clear hz
  by_cases h3 : xs.length ≤ 3 ∧ ys.length ≤ 3
  · clear fx fy
    have fx : Fits (V xs) 3 := Fits.of Sx.ws (by omega)
    have fy : Fits (V ys) 3 := Fits.of Sy.ws (by omega)
    obtain ⟨i, hi⟩ : ∃ i, i = n % 10 := ⟨_, rfl⟩
    obtain ⟨k, hk⟩ : ∃ k, k = m % 10 := ⟨_, rfl⟩
    have hi9 : i ≤ 9 := by omega
    have hk9 : k ≤ 9 := by omega
    have HI := Lib.hid hi; have HKK := Lib.hid hk; clear hi hk
    obtain ⟨jx, hjx⟩ : ∃ z, z = L (V xs ^ i) := ⟨_, rfl⟩
    have ljx : jx.length ≤ 9000 := Nat.le_trans (NR.len_of hjx (QL.fpow fx i)) (by first | decide | omega)
    have Hjx := Lib.hid hjx; clear hjx
    obtain ⟨jy, hjy⟩ : ∃ z, z = L (V xs ^ k) := ⟨_, rfl⟩
    have ljy : jy.length ≤ 9000 := Nat.le_trans (NR.len_of hjy (QL.fpow fx k)) (by first | decide | omega)
    have Hjy := Lib.hid hjy; clear hjy
    obtain ⟨jz, hjz⟩ : ∃ z, z = L (V xs ^ (i + k)) := ⟨_, rfl⟩
    have ljz : jz.length ≤ 9000 := Nat.le_trans (NR.len_of hjz (QL.fpow fx (i + k))) (by first | decide | omega)
    have Hjz := Lib.hid hjz; clear hjz
    obtain ⟨ju, hju⟩ : ∃ z, z = L (V ys ^ i) := ⟨_, rfl⟩
    have lju : ju.length ≤ 9000 := Nat.le_trans (NR.len_of hju (QL.fpow fy i)) (by first | decide | omega)
    have Hju := Lib.hid hju; clear hju
    obtain ⟨jm, hjm⟩ : ∃ z, z = L (V xs * V ys) := ⟨_, rfl⟩
    have ljm : jm.length ≤ 9000 := Nat.le_trans (NR.len_of hjm (fx.mul fy)) (by first | decide | omega)
    have Hjm := Lib.hid hjm; clear hjm
    obtain ⟨jv, hjv⟩ : ∃ z, z = L ((V xs * V ys) ^ i) := ⟨_, rfl⟩
    have ljv : jv.length ≤ 9000 := Nat.le_trans (NR.len_of hjv (QL.fpow (fx.mul fy) i)) (by first | decide | omega)
    have Hjv := Lib.hid hjv; clear hjv
    have hik : i * k ≤ 81 := Nat.mul_le_mul hi9 hk9
    obtain ⟨ik, hikk⟩ : ∃ z, z = i * k := ⟨_, rfl⟩
    have hik2 : ik ≤ 81 := by omega
    obtain ⟨jw, hjw⟩ : ∃ z, z = L (V xs ^ ik) := ⟨_, rfl⟩
    have ljw : jw.length ≤ 9000 := Nat.le_trans (NR.len_of hjw (QL.fpow fx ik)) (by first | decide | omega)
    have Hjw := Lib.hid hjw; clear hjw
    obtain ⟨jt, hjt⟩ : ∃ z, z = L (2 ^ (7 * i + k)) := ⟨_, rfl⟩
    have ljt : jt.length ≤ 9000 := Nat.le_trans (NR.len_of hjt (show Fits (2 ^ (7 * i + k)) 2 by have h1 : 2 ^ (7 * i + k) ≤ 2 ^ 72 := Nat.pow_le_pow_right (by decide) (by omega); exact Nat.lt_of_le_of_lt h1 (by decide))) (by first | decide | omega)
    have Hjt := Lib.hid hjt; clear hjt
    have B1 : bitLen (V xs) * i ≤ 1048576 := bb fx 81 (by decide) (by omega)
    have B2 : bitLen (V xs) * k ≤ 1048576 := bb fx 81 (by decide) (by omega)
    have B3 : bitLen (V xs) * (i + k) ≤ 1048576 := bb fx 81 (by decide) (by omega)
    have B4 : bitLen (V ys) * i ≤ 1048576 := bb fy 81 (by decide) (by omega)
    have B5 : bitLen (V xs * V ys) * i ≤ 1048576 := bb (fx.mul fy) 81 (by decide) (by omega)
    have B6 : bitLen (V xs ^ k) * i ≤ 1048576 := bp fx hk9 hi9
    have B7 : bitLen (V xs) * ik ≤ 1048576 := bb fx 81 (by decide) hik2
    have B8 : bitLen (V [2]) * (7 * i + k) ≤ 1048576 := by rw [show bitLen (V [2]) = 2 by decide +kernel]; omega
    have HB1 := Lib.hid B1; clear B1
    have HB2 := Lib.hid B2; clear B2
    have HB3 := Lib.hid B3; clear B3
    have HB4 := Lib.hid B4; clear B4
    have HB5 := Lib.hid B5; clear B5
    have HB6 := Lib.hid B6; clear B6
    have HB7 := Lib.hid B7; clear B7
    have HB8 := Lib.hid B8; clear B8
    have HIK := Lib.hid hikk; clear hikk hik
    have EW : Hid (jw = L (V jy ^ i)) := Lib.hid (by rw [Hjw.out, Hjy.out, V_L, ipow, HIK.out])
    have EX : Hid (jz = L (V jx * V jy)) := Lib.hid (by rw [Hjz.out, Hjx.out, Hjy.out, V_L, V_L, Nat.pow_add])
    have EV : Hid (jv = L (V jx * V ju)) := Lib.hid (by rw [Hjv.out, Hjx.out, Hju.out, V_L, V_L, Nat.mul_pow])
    have HN2 : Hid (((n : Int) % 10) = (i : Int)) := Lib.hid (by rw [HI.out]; omega)
    have HM2 : Hid (((m : Int) % 10) = (k : Int)) := Lib.hid (by rw [HKK.out]; omega)
    go_enter Try.func6, Try.ntmps6
    go_wp2_with fail
    refine (QL.long2 (by simp) false HZ).mono ?_; rintro e w' ⟨rfl, rfl⟩
    go_wp2_with fail
    refine (QL.awake _).mono ?_; rintro e u1 ⟨rfl, hb⟩
    replace Sx : Rd u1 a0 cap0 (xs) := Rd.nx (by repeat (first | with_reducible exact Sx | with_reducible apply Rd.al | with_reducible apply Rd.dr | with_reducible apply Rd.dr1)) hb
    replace Sy : Rd u1 a1 cap1 (ys) := Rd.nx (by repeat (first | with_reducible exact Sy | with_reducible apply Rd.al | with_reducible apply Rd.dr | with_reducible apply Rd.dr1)) hb
    replace K : Kp w u1 := Kp.nx (by repeat (first | with_reducible exact K | with_reducible apply Kp.al | with_reducible apply Kp.dr | with_reducible apply Kp.dr1)) hb
    clear hb
    have P0 : 0 ≤ (i : Int) * (k : Int) := Int.mul_nonneg (by omega) (by omega)
    have P1 : (i : Int) * (k : Int) ≤ 81 := by have := HIK.out; rw [← Int.natCast_mul, ← HIK.out]; omega
    have HIK2 := Lib.hid (show (i : Int) * (k : Int) = (ik : Int) by rw [HIK.out]; simp)
    go_wp2_with fail
    rw [HN2.out, HM2.out]
    go_wp2_with fail
    refine (QL.powI (zs := jx) (xs := xs) (by repeat (first | with_reducible exact Sx | with_reducible apply Rd.al | with_reducible apply Rd.dr | with_reducible apply Rd.dr1)) rfl (by omega) (i) (i) rfl (by omega) HB1.out Hjx.out).mono ?_; rintro e u2 ⟨pp1, qp1, rfl, ho, hb⟩
    replace Sx : Rd u2 a0 cap0 (xs) := Rd.nx (by repeat (first | with_reducible exact Sx | with_reducible apply Rd.al | with_reducible apply Rd.dr | with_reducible apply Rd.dr1)) hb
    replace Sy : Rd u2 a1 cap1 (ys) := Rd.nx (by repeat (first | with_reducible exact Sy | with_reducible apply Rd.al | with_reducible apply Rd.dr | with_reducible apply Rd.dr1)) hb
    replace K : Kp w u2 := Kp.nx (by repeat (first | with_reducible exact K | with_reducible apply Kp.al | with_reducible apply Kp.dr | with_reducible apply Kp.dr1)) hb
    have Sp1 : Rd u2 pp1 qp1 (jx) := ho.rd
    clear ho hb
    go_wp2_with fail
    refine (QL.powI (zs := jy) (xs := xs) (by repeat (first | with_reducible exact Sx | with_reducible apply Rd.al | with_reducible apply Rd.dr | with_reducible apply Rd.dr1)) rfl (by omega) (k) (k) rfl (by omega) HB2.out Hjy.out).mono ?_; rintro e u3 ⟨pp2, qp2, rfl, ho, hb⟩
    replace Sx : Rd u3 a0 cap0 (xs) := Rd.nx (by repeat (first | with_reducible exact Sx | with_reducible apply Rd.al | with_reducible apply Rd.dr | with_reducible apply Rd.dr1)) hb
    replace Sy : Rd u3 a1 cap1 (ys) := Rd.nx (by repeat (first | with_reducible exact Sy | with_reducible apply Rd.al | with_reducible apply Rd.dr | with_reducible apply Rd.dr1)) hb
    replace Sp1 : Rd u3 pp1 qp1 (jx) := Rd.nx (by repeat (first | with_reducible exact Sp1 | with_reducible apply Rd.al | with_reducible apply Rd.dr | with_reducible apply Rd.dr1)) hb
    replace K : Kp w u3 := Kp.nx (by repeat (first | with_reducible exact K | with_reducible apply Kp.al | with_reducible apply Kp.dr | with_reducible apply Kp.dr1)) hb
    have Sp2 : Rd u3 pp2 qp2 (jy) := ho.rd
    clear ho hb
    go_wp2_with fail
    refine (QL.powI (zs := jz) (xs := xs) (by repeat (first | with_reducible exact Sx | with_reducible apply Rd.al | with_reducible apply Rd.dr | with_reducible apply Rd.dr1)) rfl (by omega) ((i : Int) + (k : Int)) (i + k) (by omega) (by omega) HB3.out Hjz.out).mono ?_; rintro e u4 ⟨pp3, qp3, rfl, ho, hb⟩
    replace Sx : Rd u4 a0 cap0 (xs) := Rd.nx (by repeat (first | with_reducible exact Sx | with_reducible apply Rd.al | with_reducible apply Rd.dr | with_reducible apply Rd.dr1)) hb
    replace Sy : Rd u4 a1 cap1 (ys) := Rd.nx (by repeat (first | with_reducible exact Sy | with_reducible apply Rd.al | with_reducible apply Rd.dr | with_reducible apply Rd.dr1)) hb
    replace Sp1 : Rd u4 pp1 qp1 (jx) := Rd.nx (by repeat (first | with_reducible exact Sp1 | with_reducible apply Rd.al | with_reducible apply Rd.dr | with_reducible apply Rd.dr1)) hb
    replace Sp2 : Rd u4 pp2 qp2 (jy) := Rd.nx (by repeat (first | with_reducible exact Sp2 | with_reducible apply Rd.al | with_reducible apply Rd.dr | with_reducible apply Rd.dr1)) hb
    replace K : Kp w u4 := Kp.nx (by repeat (first | with_reducible exact K | with_reducible apply Kp.al | with_reducible apply Kp.dr | with_reducible apply Kp.dr1)) hb
    have Sp3 : Rd u4 pp3 qp3 (jz) := ho.rd
    clear ho hb
    go_wp2_with fail
    refine (QL.powI (zs := ju) (xs := ys) (by repeat (first | with_reducible exact Sy | with_reducible apply Rd.al | with_reducible apply Rd.dr | with_reducible apply Rd.dr1)) rfl (by omega) (i) (i) rfl (by omega) HB4.out Hju.out).mono ?_; rintro e u5 ⟨pp4, qp4, rfl, ho, hb⟩
    replace Sx : Rd u5 a0 cap0 (xs) := Rd.nx (by repeat (first | with_reducible exact Sx | with_reducible apply Rd.al | with_reducible apply Rd.dr | with_reducible apply Rd.dr1)) hb
    replace Sy : Rd u5 a1 cap1 (ys) := Rd.nx (by repeat (first | with_reducible exact Sy | with_reducible apply Rd.al | with_reducible apply Rd.dr | with_reducible apply Rd.dr1)) hb
    replace Sp1 : Rd u5 pp1 qp1 (jx) := Rd.nx (by repeat (first | with_reducible exact Sp1 | with_reducible apply Rd.al | with_reducible apply Rd.dr | with_reducible apply Rd.dr1)) hb
    replace Sp2 : Rd u5 pp2 qp2 (jy) := Rd.nx (by repeat (first | with_reducible exact Sp2 | with_reducible apply Rd.al | with_reducible apply Rd.dr | with_reducible apply Rd.dr1)) hb
    replace Sp3 : Rd u5 pp3 qp3 (jz) := Rd.nx (by repeat (first | with_reducible exact Sp3 | with_reducible apply Rd.al | with_reducible apply Rd.dr | with_reducible apply Rd.dr1)) hb
    replace K : Kp w u5 := Kp.nx (by repeat (first | with_reducible exact K | with_reducible apply Kp.al | with_reducible apply Kp.dr | with_reducible apply Kp.dr1)) hb
    have Sp4 : Rd u5 pp4 qp4 (ju) := ho.rd
    clear ho hb
    go_wp2_with fail
    refine (NR.mul (zs := jm) (xs := xs) (ys := ys) (by repeat (first | with_reducible exact Sx | with_reducible apply Rd.al | with_reducible apply Rd.dr | with_reducible apply Rd.dr1)) (by repeat (first | with_reducible exact Sy | with_reducible apply Rd.al | with_reducible apply Rd.dr | with_reducible apply Rd.dr1)) rfl rfl (by omega) (by omega) Hjm.out).mono ?_; rintro e u6 ⟨pm1, qm1, rfl, ho, hb⟩
    replace Sx : Rd u6 a0 cap0 (xs) := Rd.nx (by repeat (first | with_reducible exact Sx | with_reducible apply Rd.al | with_reducible apply Rd.dr | with_reducible apply Rd.dr1)) hb
    replace Sy : Rd u6 a1 cap1 (ys) := Rd.nx (by repeat (first | with_reducible exact Sy | with_reducible apply Rd.al | with_reducible apply Rd.dr | with_reducible apply Rd.dr1)) hb
    replace Sp1 : Rd u6 pp1 qp1 (jx) := Rd.nx (by repeat (first | with_reducible exact Sp1 | with_reducible apply Rd.al | with_reducible apply Rd.dr | with_reducible apply Rd.dr1)) hb
    replace Sp2 : Rd u6 pp2 qp2 (jy) := Rd.nx (by repeat (first | with_reducible exact Sp2 | with_reducible apply Rd.al | with_reducible apply Rd.dr | with_reducible apply Rd.dr1)) hb
    replace Sp3 : Rd u6 pp3 qp3 (jz) := Rd.nx (by repeat (first | with_reducible exact Sp3 | with_reducible apply Rd.al | with_reducible apply Rd.dr | with_reducible apply Rd.dr1)) hb
    replace Sp4 : Rd u6 pp4 qp4 (ju) := Rd.nx (by repeat (first | with_reducible exact Sp4 | with_reducible apply Rd.al | with_reducible apply Rd.dr | with_reducible apply Rd.dr1)) hb
    replace K : Kp w u6 := Kp.nx (by repeat (first | with_reducible exact K | with_reducible apply Kp.al | with_reducible apply Kp.dr | with_reducible apply Kp.dr1)) hb
    have Sm1 : Rd u6 pm1 qm1 (jm) := ho.rd
    clear ho hb
    go_wp2_with fail
    refine (QL.powI (zs := jv) (xs := jm) (by repeat (first | with_reducible exact Sm1 | with_reducible apply Rd.al | with_reducible apply Rd.dr | with_reducible apply Rd.dr1)) rfl (by omega) (i) (i) rfl (by omega) (by rw [Hjm.out, V_L]; exact HB5.out) (by rw [Hjv.out, Hjm.out, V_L])).mono ?_; rintro e u7 ⟨pp5, qp5, rfl, ho, hb⟩
    replace Sx : Rd u7 a0 cap0 (xs) := Rd.nx (by repeat (first | with_reducible exact Sx | with_reducible apply Rd.al | with_reducible apply Rd.dr | with_reducible apply Rd.dr1)) hb
    replace Sy : Rd u7 a1 cap1 (ys) := Rd.nx (by repeat (first | with_reducible exact Sy | with_reducible apply Rd.al | with_reducible apply Rd.dr | with_reducible apply Rd.dr1)) hb
    replace Sp1 : Rd u7 pp1 qp1 (jx) := Rd.nx (by repeat (first | with_reducible exact Sp1 | with_reducible apply Rd.al | with_reducible apply Rd.dr | with_reducible apply Rd.dr1)) hb
    replace Sp2 : Rd u7 pp2 qp2 (jy) := Rd.nx (by repeat (first | with_reducible exact Sp2 | with_reducible apply Rd.al | with_reducible apply Rd.dr | with_reducible apply Rd.dr1)) hb
    replace Sp3 : Rd u7 pp3 qp3 (jz) := Rd.nx (by repeat (first | with_reducible exact Sp3 | with_reducible apply Rd.al | with_reducible apply Rd.dr | with_reducible apply Rd.dr1)) hb
    replace Sp4 : Rd u7 pp4 qp4 (ju) := Rd.nx (by repeat (first | with_reducible exact Sp4 | with_reducible apply Rd.al | with_reducible apply Rd.dr | with_reducible apply Rd.dr1)) hb
    replace Sm1 : Rd u7 pm1 qm1 (jm) := Rd.nx (by repeat (first | with_reducible exact Sm1 | with_reducible apply Rd.al | with_reducible apply Rd.dr | with_reducible apply Rd.dr1)) hb
    replace K : Kp w u7 := Kp.nx (by repeat (first | with_reducible exact K | with_reducible apply Kp.al | with_reducible apply Kp.dr | with_reducible apply Kp.dr1)) hb
    have Sp5 : Rd u7 pp5 qp5 (jv) := ho.rd
    clear ho hb
    go_wp2_with fail
    refine (QL.powI (zs := jw) (xs := jy) (by repeat (first | with_reducible exact Sp2 | with_reducible apply Rd.al | with_reducible apply Rd.dr | with_reducible apply Rd.dr1)) rfl (by omega) (i) (i) rfl (by omega) (by rw [Hjy.out, V_L]; exact HB6.out) EW.out).mono ?_; rintro e u8 ⟨pp6, qp6, rfl, ho, hb⟩
    replace Sx : Rd u8 a0 cap0 (xs) := Rd.nx (by repeat (first | with_reducible exact Sx | with_reducible apply Rd.al | with_reducible apply Rd.dr | with_reducible apply Rd.dr1)) hb
    replace Sy : Rd u8 a1 cap1 (ys) := Rd.nx (by repeat (first | with_reducible exact Sy | with_reducible apply Rd.al | with_reducible apply Rd.dr | with_reducible apply Rd.dr1)) hb
    replace Sp1 : Rd u8 pp1 qp1 (jx) := Rd.nx (by repeat (first | with_reducible exact Sp1 | with_reducible apply Rd.al | with_reducible apply Rd.dr | with_reducible apply Rd.dr1)) hb
    replace Sp2 : Rd u8 pp2 qp2 (jy) := Rd.nx (by repeat (first | with_reducible exact Sp2 | with_reducible apply Rd.al | with_reducible apply Rd.dr | with_reducible apply Rd.dr1)) hb
    replace Sp3 : Rd u8 pp3 qp3 (jz) := Rd.nx (by repeat (first | with_reducible exact Sp3 | with_reducible apply Rd.al | with_reducible apply Rd.dr | with_reducible apply Rd.dr1)) hb
    replace Sp4 : Rd u8 pp4 qp4 (ju) := Rd.nx (by repeat (first | with_reducible exact Sp4 | with_reducible apply Rd.al | with_reducible apply Rd.dr | with_reducible apply Rd.dr1)) hb
    replace Sm1 : Rd u8 pm1 qm1 (jm) := Rd.nx (by repeat (first | with_reducible exact Sm1 | with_reducible apply Rd.al | with_reducible apply Rd.dr | with_reducible apply Rd.dr1)) hb
    replace Sp5 : Rd u8 pp5 qp5 (jv) := Rd.nx (by repeat (first | with_reducible exact Sp5 | with_reducible apply Rd.al | with_reducible apply Rd.dr | with_reducible apply Rd.dr1)) hb
    replace K : Kp w u8 := Kp.nx (by repeat (first | with_reducible exact K | with_reducible apply Kp.al | with_reducible apply Kp.dr | with_reducible apply Kp.dr1)) hb
    have Sp6 : Rd u8 pp6 qp6 (jw) := ho.rd
    clear ho hb
    go_wp2_with fail
    refine (QL.powI (zs := jw) (xs := xs) (by repeat (first | with_reducible exact Sx | with_reducible apply Rd.al | with_reducible apply Rd.dr | with_reducible apply Rd.dr1)) rfl (by omega) ((i : Int) * (k : Int)) (ik) HIK2.out (by omega) HB7.out Hjw.out).mono ?_; rintro e u9 ⟨pp7, qp7, rfl, ho, hb⟩
    replace Sx : Rd u9 a0 cap0 (xs) := Rd.nx (by repeat (first | with_reducible exact Sx | with_reducible apply Rd.al | with_reducible apply Rd.dr | with_reducible apply Rd.dr1)) hb
    replace Sy : Rd u9 a1 cap1 (ys) := Rd.nx (by repeat (first | with_reducible exact Sy | with_reducible apply Rd.al | with_reducible apply Rd.dr | with_reducible apply Rd.dr1)) hb
    replace Sp1 : Rd u9 pp1 qp1 (jx) := Rd.nx (by repeat (first | with_reducible exact Sp1 | with_reducible apply Rd.al | with_reducible apply Rd.dr | with_reducible apply Rd.dr1)) hb
    replace Sp2 : Rd u9 pp2 qp2 (jy) := Rd.nx (by repeat (first | with_reducible exact Sp2 | with_reducible apply Rd.al | with_reducible apply Rd.dr | with_reducible apply Rd.dr1)) hb
    replace Sp3 : Rd u9 pp3 qp3 (jz) := Rd.nx (by repeat (first | with_reducible exact Sp3 | with_reducible apply Rd.al | with_reducible apply Rd.dr | with_reducible apply Rd.dr1)) hb
    replace Sp4 : Rd u9 pp4 qp4 (ju) := Rd.nx (by repeat (first | with_reducible exact Sp4 | with_reducible apply Rd.al | with_reducible apply Rd.dr | with_reducible apply Rd.dr1)) hb
    replace Sm1 : Rd u9 pm1 qm1 (jm) := Rd.nx (by repeat (first | with_reducible exact Sm1 | with_reducible apply Rd.al | with_reducible apply Rd.dr | with_reducible apply Rd.dr1)) hb
    replace Sp5 : Rd u9 pp5 qp5 (jv) := Rd.nx (by repeat (first | with_reducible exact Sp5 | with_reducible apply Rd.al | with_reducible apply Rd.dr | with_reducible apply Rd.dr1)) hb
    replace Sp6 : Rd u9 pp6 qp6 (jw) := Rd.nx (by repeat (first | with_reducible exact Sp6 | with_reducible apply Rd.al | with_reducible apply Rd.dr | with_reducible apply Rd.dr1)) hb
    replace K : Kp w u9 := Kp.nx (by repeat (first | with_reducible exact K | with_reducible apply Kp.al | with_reducible apply Kp.dr | with_reducible apply Kp.dr1)) hb
    have Sp7 : Rd u9 pp7 qp7 (jw) := ho.rd
    clear ho hb
    go_wp2_with fail
    refine (QL.powI (zs := jt) (xs := [2]) (by repeat (first | exact Rd.litn [2] #[.int .u64 2] (ws_of _ (by decide +kernel)) rfl (by decide) (by simp) | with_reducible apply Rd.al)) rfl (by decide) (7 * (i : Int) + (k : Int)) (7 * i + k) (by omega) (by omega) HB8.out (by rw [Hjt.out, two_pow])).mono ?_; rintro e u10 ⟨pp8, qp8, rfl, ho, hb⟩
    replace Sx : Rd u10 a0 cap0 (xs) := Rd.nx (by repeat (first | with_reducible exact Sx | with_reducible apply Rd.al | with_reducible apply Rd.dr | with_reducible apply Rd.dr1)) hb
    replace Sy : Rd u10 a1 cap1 (ys) := Rd.nx (by repeat (first | with_reducible exact Sy | with_reducible apply Rd.al | with_reducible apply Rd.dr | with_reducible apply Rd.dr1)) hb
    replace Sp1 : Rd u10 pp1 qp1 (jx) := Rd.nx (by repeat (first | with_reducible exact Sp1 | with_reducible apply Rd.al | with_reducible apply Rd.dr | with_reducible apply Rd.dr1)) hb
    replace Sp2 : Rd u10 pp2 qp2 (jy) := Rd.nx (by repeat (first | with_reducible exact Sp2 | with_reducible apply Rd.al | with_reducible apply Rd.dr | with_reducible apply Rd.dr1)) hb
    replace Sp3 : Rd u10 pp3 qp3 (jz) := Rd.nx (by repeat (first | with_reducible exact Sp3 | with_reducible apply Rd.al | with_reducible apply Rd.dr | with_reducible apply Rd.dr1)) hb
    replace Sp4 : Rd u10 pp4 qp4 (ju) := Rd.nx (by repeat (first | with_reducible exact Sp4 | with_reducible apply Rd.al | with_reducible apply Rd.dr | with_reducible apply Rd.dr1)) hb
    replace Sm1 : Rd u10 pm1 qm1 (jm) := Rd.nx (by repeat (first | with_reducible exact Sm1 | with_reducible apply Rd.al | with_reducible apply Rd.dr | with_reducible apply Rd.dr1)) hb
    replace Sp5 : Rd u10 pp5 qp5 (jv) := Rd.nx (by repeat (first | with_reducible exact Sp5 | with_reducible apply Rd.al | with_reducible apply Rd.dr | with_reducible apply Rd.dr1)) hb
    replace Sp6 : Rd u10 pp6 qp6 (jw) := Rd.nx (by repeat (first | with_reducible exact Sp6 | with_reducible apply Rd.al | with_reducible apply Rd.dr | with_reducible apply Rd.dr1)) hb
    replace Sp7 : Rd u10 pp7 qp7 (jw) := Rd.nx (by repeat (first | with_reducible exact Sp7 | with_reducible apply Rd.al | with_reducible apply Rd.dr | with_reducible apply Rd.dr1)) hb
    replace K : Kp w u10 := Kp.nx (by repeat (first | with_reducible exact K | with_reducible apply Kp.al | with_reducible apply Kp.dr | with_reducible apply Kp.dr1)) hb
    have Sp8 : Rd u10 pp8 qp8 (jt) := ho.rd
    clear ho hb
    go_wp2_with fail
    refine (QT.shlI (zs := jt) (xs := [1]) (by repeat (first | exact Rd.litn [1] #[.int .u64 1] (ws_of _ (by decide +kernel)) rfl (by decide) (by simp) | with_reducible apply Rd.al)) rfl (by decide) (7 * (i : Int) + (k : Int)) (7 * i + k) (by omega) (by omega) (by rw [Hjt.out, one_pow'])).mono ?_; rintro e u11 ⟨pp9, qp9, rfl, ho, hb⟩
    replace Sx : Rd u11 a0 cap0 (xs) := Rd.nx (by repeat (first | with_reducible exact Sx | with_reducible apply Rd.al | with_reducible apply Rd.dr | with_reducible apply Rd.dr1)) hb
    replace Sy : Rd u11 a1 cap1 (ys) := Rd.nx (by repeat (first | with_reducible exact Sy | with_reducible apply Rd.al | with_reducible apply Rd.dr | with_reducible apply Rd.dr1)) hb
    replace Sp1 : Rd u11 pp1 qp1 (jx) := Rd.nx (by repeat (first | with_reducible exact Sp1 | with_reducible apply Rd.al | with_reducible apply Rd.dr | with_reducible apply Rd.dr1)) hb
    replace Sp2 : Rd u11 pp2 qp2 (jy) := Rd.nx (by repeat (first | with_reducible exact Sp2 | with_reducible apply Rd.al | with_reducible apply Rd.dr | with_reducible apply Rd.dr1)) hb
    replace Sp3 : Rd u11 pp3 qp3 (jz) := Rd.nx (by repeat (first | with_reducible exact Sp3 | with_reducible apply Rd.al | with_reducible apply Rd.dr | with_reducible apply Rd.dr1)) hb
    replace Sp4 : Rd u11 pp4 qp4 (ju) := Rd.nx (by repeat (first | with_reducible exact Sp4 | with_reducible apply Rd.al | with_reducible apply Rd.dr | with_reducible apply Rd.dr1)) hb
    replace Sm1 : Rd u11 pm1 qm1 (jm) := Rd.nx (by repeat (first | with_reducible exact Sm1 | with_reducible apply Rd.al | with_reducible apply Rd.dr | with_reducible apply Rd.dr1)) hb
    replace Sp5 : Rd u11 pp5 qp5 (jv) := Rd.nx (by repeat (first | with_reducible exact Sp5 | with_reducible apply Rd.al | with_reducible apply Rd.dr | with_reducible apply Rd.dr1)) hb
    replace Sp6 : Rd u11 pp6 qp6 (jw) := Rd.nx (by repeat (first | with_reducible exact Sp6 | with_reducible apply Rd.al | with_reducible apply Rd.dr | with_reducible apply Rd.dr1)) hb
    replace Sp7 : Rd u11 pp7 qp7 (jw) := Rd.nx (by repeat (first | with_reducible exact Sp7 | with_reducible apply Rd.al | with_reducible apply Rd.dr | with_reducible apply Rd.dr1)) hb
    replace Sp8 : Rd u11 pp8 qp8 (jt) := Rd.nx (by repeat (first | with_reducible exact Sp8 | with_reducible apply Rd.al | with_reducible apply Rd.dr | with_reducible apply Rd.dr1)) hb
    replace K : Kp w u11 := Kp.nx (by repeat (first | with_reducible exact K | with_reducible apply Kp.al | with_reducible apply Kp.dr | with_reducible apply Kp.dr1)) hb
    have Sp9 : Rd u11 pp9 qp9 (jt) := ho.rd
    clear ho hb
    go_wp2_with fail
    refine (NR.mul (zs := jz) (xs := jx) (ys := jy) (by repeat (first | with_reducible exact Sp1 | with_reducible apply Rd.al | with_reducible apply Rd.dr | with_reducible apply Rd.dr1)) (by repeat (first | with_reducible exact Sp2 | with_reducible apply Rd.al | with_reducible apply Rd.dr | with_reducible apply Rd.dr1)) rfl rfl (by omega) (by omega) EX.out).mono ?_; rintro e u12 ⟨pq1, qq1, rfl, ho, hb⟩
    replace Sx : Rd u12 a0 cap0 (xs) := Rd.nx (by repeat (first | with_reducible exact Sx | with_reducible apply Rd.al | with_reducible apply Rd.dr | with_reducible apply Rd.dr1)) hb
    replace Sy : Rd u12 a1 cap1 (ys) := Rd.nx (by repeat (first | with_reducible exact Sy | with_reducible apply Rd.al | with_reducible apply Rd.dr | with_reducible apply Rd.dr1)) hb
    replace Sp1 : Rd u12 pp1 qp1 (jx) := Rd.nx (by repeat (first | with_reducible exact Sp1 | with_reducible apply Rd.al | with_reducible apply Rd.dr | with_reducible apply Rd.dr1)) hb
    replace Sp2 : Rd u12 pp2 qp2 (jy) := Rd.nx (by repeat (first | with_reducible exact Sp2 | with_reducible apply Rd.al | with_reducible apply Rd.dr | with_reducible apply Rd.dr1)) hb
    replace Sp3 : Rd u12 pp3 qp3 (jz) := Rd.nx (by repeat (first | with_reducible exact Sp3 | with_reducible apply Rd.al | with_reducible apply Rd.dr | with_reducible apply Rd.dr1)) hb
    replace Sp4 : Rd u12 pp4 qp4 (ju) := Rd.nx (by repeat (first | with_reducible exact Sp4 | with_reducible apply Rd.al | with_reducible apply Rd.dr | with_reducible apply Rd.dr1)) hb
    replace Sm1 : Rd u12 pm1 qm1 (jm) := Rd.nx (by repeat (first | with_reducible exact Sm1 | with_reducible apply Rd.al | with_reducible apply Rd.dr | with_reducible apply Rd.dr1)) hb
    replace Sp5 : Rd u12 pp5 qp5 (jv) := Rd.nx (by repeat (first | with_reducible exact Sp5 | with_reducible apply Rd.al | with_reducible apply Rd.dr | with_reducible apply Rd.dr1)) hb
    replace Sp6 : Rd u12 pp6 qp6 (jw) := Rd.nx (by repeat (first | with_reducible exact Sp6 | with_reducible apply Rd.al | with_reducible apply Rd.dr | with_reducible apply Rd.dr1)) hb
    replace Sp7 : Rd u12 pp7 qp7 (jw) := Rd.nx (by repeat (first | with_reducible exact Sp7 | with_reducible apply Rd.al | with_reducible apply Rd.dr | with_reducible apply Rd.dr1)) hb
    replace Sp8 : Rd u12 pp8 qp8 (jt) := Rd.nx (by repeat (first | with_reducible exact Sp8 | with_reducible apply Rd.al | with_reducible apply Rd.dr | with_reducible apply Rd.dr1)) hb
    replace Sp9 : Rd u12 pp9 qp9 (jt) := Rd.nx (by repeat (first | with_reducible exact Sp9 | with_reducible apply Rd.al | with_reducible apply Rd.dr | with_reducible apply Rd.dr1)) hb
    replace K : Kp w u12 := Kp.nx (by repeat (first | with_reducible exact K | with_reducible apply Kp.al | with_reducible apply Kp.dr | with_reducible apply Kp.dr1)) hb
    have Sq1 : Rd u12 pq1 qq1 (jz) := ho.rd
    clear ho hb
    go_wp2_with fail
    refine (QL.same_yes (xs := jz) (ys := jz) (by repeat (first | with_reducible exact Sq1 | with_reducible apply Rd.al | with_reducible apply Rd.dr | with_reducible apply Rd.dr1)) (by repeat (first | with_reducible exact Sp3 | with_reducible apply Rd.al | with_reducible apply Rd.dr | with_reducible apply Rd.dr1)) rfl rfl (by omega) rfl).mono ?_; rintro e u13 ⟨rfl, hb⟩
    replace Sx : Rd u13 a0 cap0 (xs) := Rd.nx (by repeat (first | with_reducible exact Sx | with_reducible apply Rd.al | with_reducible apply Rd.dr | with_reducible apply Rd.dr1)) hb
    replace Sy : Rd u13 a1 cap1 (ys) := Rd.nx (by repeat (first | with_reducible exact Sy | with_reducible apply Rd.al | with_reducible apply Rd.dr | with_reducible apply Rd.dr1)) hb
    replace Sp1 : Rd u13 pp1 qp1 (jx) := Rd.nx (by repeat (first | with_reducible exact Sp1 | with_reducible apply Rd.al | with_reducible apply Rd.dr | with_reducible apply Rd.dr1)) hb
    replace Sp2 : Rd u13 pp2 qp2 (jy) := Rd.nx (by repeat (first | with_reducible exact Sp2 | with_reducible apply Rd.al | with_reducible apply Rd.dr | with_reducible apply Rd.dr1)) hb
    replace Sp3 : Rd u13 pp3 qp3 (jz) := Rd.nx (by repeat (first | with_reducible exact Sp3 | with_reducible apply Rd.al | with_reducible apply Rd.dr | with_reducible apply Rd.dr1)) hb
    replace Sp4 : Rd u13 pp4 qp4 (ju) := Rd.nx (by repeat (first | with_reducible exact Sp4 | with_reducible apply Rd.al | with_reducible apply Rd.dr | with_reducible apply Rd.dr1)) hb
    replace Sm1 : Rd u13 pm1 qm1 (jm) := Rd.nx (by repeat (first | with_reducible exact Sm1 | with_reducible apply Rd.al | with_reducible apply Rd.dr | with_reducible apply Rd.dr1)) hb
    replace Sp5 : Rd u13 pp5 qp5 (jv) := Rd.nx (by repeat (first | with_reducible exact Sp5 | with_reducible apply Rd.al | with_reducible apply Rd.dr | with_reducible apply Rd.dr1)) hb
    replace Sp6 : Rd u13 pp6 qp6 (jw) := Rd.nx (by repeat (first | with_reducible exact Sp6 | with_reducible apply Rd.al | with_reducible apply Rd.dr | with_reducible apply Rd.dr1)) hb
    replace Sp7 : Rd u13 pp7 qp7 (jw) := Rd.nx (by repeat (first | with_reducible exact Sp7 | with_reducible apply Rd.al | with_reducible apply Rd.dr | with_reducible apply Rd.dr1)) hb
    replace Sp8 : Rd u13 pp8 qp8 (jt) := Rd.nx (by repeat (first | with_reducible exact Sp8 | with_reducible apply Rd.al | with_reducible apply Rd.dr | with_reducible apply Rd.dr1)) hb
    replace Sp9 : Rd u13 pp9 qp9 (jt) := Rd.nx (by repeat (first | with_reducible exact Sp9 | with_reducible apply Rd.al | with_reducible apply Rd.dr | with_reducible apply Rd.dr1)) hb
    replace Sq1 : Rd u13 pq1 qq1 (jz) := Rd.nx (by repeat (first | with_reducible exact Sq1 | with_reducible apply Rd.al | with_reducible apply Rd.dr | with_reducible apply Rd.dr1)) hb
    replace K : Kp w u13 := Kp.nx (by repeat (first | with_reducible exact K | with_reducible apply Kp.al | with_reducible apply Kp.dr | with_reducible apply Kp.dr1)) hb
    clear hb
    go_wp2_with fail
    refine (NR.mul (zs := jv) (xs := jx) (ys := ju) (by repeat (first | with_reducible exact Sp1 | with_reducible apply Rd.al | with_reducible apply Rd.dr | with_reducible apply Rd.dr1)) (by repeat (first | with_reducible exact Sp4 | with_reducible apply Rd.al | with_reducible apply Rd.dr | with_reducible apply Rd.dr1)) rfl rfl (by omega) (by omega) EV.out).mono ?_; rintro e u14 ⟨pq2, qq2, rfl, ho, hb⟩
    replace Sx : Rd u14 a0 cap0 (xs) := Rd.nx (by repeat (first | with_reducible exact Sx | with_reducible apply Rd.al | with_reducible apply Rd.dr | with_reducible apply Rd.dr1)) hb
    replace Sy : Rd u14 a1 cap1 (ys) := Rd.nx (by repeat (first | with_reducible exact Sy | with_reducible apply Rd.al | with_reducible apply Rd.dr | with_reducible apply Rd.dr1)) hb
    replace Sp1 : Rd u14 pp1 qp1 (jx) := Rd.nx (by repeat (first | with_reducible exact Sp1 | with_reducible apply Rd.al | with_reducible apply Rd.dr | with_reducible apply Rd.dr1)) hb
    replace Sp2 : Rd u14 pp2 qp2 (jy) := Rd.nx (by repeat (first | with_reducible exact Sp2 | with_reducible apply Rd.al | with_reducible apply Rd.dr | with_reducible apply Rd.dr1)) hb
    replace Sp3 : Rd u14 pp3 qp3 (jz) := Rd.nx (by repeat (first | with_reducible exact Sp3 | with_reducible apply Rd.al | with_reducible apply Rd.dr | with_reducible apply Rd.dr1)) hb
    replace Sp4 : Rd u14 pp4 qp4 (ju) := Rd.nx (by repeat (first | with_reducible exact Sp4 | with_reducible apply Rd.al | with_reducible apply Rd.dr | with_reducible apply Rd.dr1)) hb
    replace Sm1 : Rd u14 pm1 qm1 (jm) := Rd.nx (by repeat (first | with_reducible exact Sm1 | with_reducible apply Rd.al | with_reducible apply Rd.dr | with_reducible apply Rd.dr1)) hb
    replace Sp5 : Rd u14 pp5 qp5 (jv) := Rd.nx (by repeat (first | with_reducible exact Sp5 | with_reducible apply Rd.al | with_reducible apply Rd.dr | with_reducible apply Rd.dr1)) hb
    replace Sp6 : Rd u14 pp6 qp6 (jw) := Rd.nx (by repeat (first | with_reducible exact Sp6 | with_reducible apply Rd.al | with_reducible apply Rd.dr | with_reducible apply Rd.dr1)) hb
    replace Sp7 : Rd u14 pp7 qp7 (jw) := Rd.nx (by repeat (first | with_reducible exact Sp7 | with_reducible apply Rd.al | with_reducible apply Rd.dr | with_reducible apply Rd.dr1)) hb
    replace Sp8 : Rd u14 pp8 qp8 (jt) := Rd.nx (by repeat (first | with_reducible exact Sp8 | with_reducible apply Rd.al | with_reducible apply Rd.dr | with_reducible apply Rd.dr1)) hb
    replace Sp9 : Rd u14 pp9 qp9 (jt) := Rd.nx (by repeat (first | with_reducible exact Sp9 | with_reducible apply Rd.al | with_reducible apply Rd.dr | with_reducible apply Rd.dr1)) hb
    replace Sq1 : Rd u14 pq1 qq1 (jz) := Rd.nx (by repeat (first | with_reducible exact Sq1 | with_reducible apply Rd.al | with_reducible apply Rd.dr | with_reducible apply Rd.dr1)) hb
    replace K : Kp w u14 := Kp.nx (by repeat (first | with_reducible exact K | with_reducible apply Kp.al | with_reducible apply Kp.dr | with_reducible apply Kp.dr1)) hb
    have Sq2 : Rd u14 pq2 qq2 (jv) := ho.rd
    clear ho hb
    go_wp2_with fail
    refine (QL.same_yes (xs := jv) (ys := jv) (by repeat (first | with_reducible exact Sq2 | with_reducible apply Rd.al | with_reducible apply Rd.dr | with_reducible apply Rd.dr1)) (by repeat (first | with_reducible exact Sp5 | with_reducible apply Rd.al | with_reducible apply Rd.dr | with_reducible apply Rd.dr1)) rfl rfl (by omega) rfl).mono ?_; rintro e u15 ⟨rfl, hb⟩
    replace Sx : Rd u15 a0 cap0 (xs) := Rd.nx (by repeat (first | with_reducible exact Sx | with_reducible apply Rd.al | with_reducible apply Rd.dr | with_reducible apply Rd.dr1)) hb
    replace Sy : Rd u15 a1 cap1 (ys) := Rd.nx (by repeat (first | with_reducible exact Sy | with_reducible apply Rd.al | with_reducible apply Rd.dr | with_reducible apply Rd.dr1)) hb
    replace Sp1 : Rd u15 pp1 qp1 (jx) := Rd.nx (by repeat (first | with_reducible exact Sp1 | with_reducible apply Rd.al | with_reducible apply Rd.dr | with_reducible apply Rd.dr1)) hb
    replace Sp2 : Rd u15 pp2 qp2 (jy) := Rd.nx (by repeat (first | with_reducible exact Sp2 | with_reducible apply Rd.al | with_reducible apply Rd.dr | with_reducible apply Rd.dr1)) hb
    replace Sp3 : Rd u15 pp3 qp3 (jz) := Rd.nx (by repeat (first | with_reducible exact Sp3 | with_reducible apply Rd.al | with_reducible apply Rd.dr | with_reducible apply Rd.dr1)) hb
    replace Sp4 : Rd u15 pp4 qp4 (ju) := Rd.nx (by repeat (first | with_reducible exact Sp4 | with_reducible apply Rd.al | with_reducible apply Rd.dr | with_reducible apply Rd.dr1)) hb
    replace Sm1 : Rd u15 pm1 qm1 (jm) := Rd.nx (by repeat (first | with_reducible exact Sm1 | with_reducible apply Rd.al | with_reducible apply Rd.dr | with_reducible apply Rd.dr1)) hb
    replace Sp5 : Rd u15 pp5 qp5 (jv) := Rd.nx (by repeat (first | with_reducible exact Sp5 | with_reducible apply Rd.al | with_reducible apply Rd.dr | with_reducible apply Rd.dr1)) hb
    replace Sp6 : Rd u15 pp6 qp6 (jw) := Rd.nx (by repeat (first | with_reducible exact Sp6 | with_reducible apply Rd.al | with_reducible apply Rd.dr | with_reducible apply Rd.dr1)) hb
    replace Sp7 : Rd u15 pp7 qp7 (jw) := Rd.nx (by repeat (first | with_reducible exact Sp7 | with_reducible apply Rd.al | with_reducible apply Rd.dr | with_reducible apply Rd.dr1)) hb
    replace Sp8 : Rd u15 pp8 qp8 (jt) := Rd.nx (by repeat (first | with_reducible exact Sp8 | with_reducible apply Rd.al | with_reducible apply Rd.dr | with_reducible apply Rd.dr1)) hb
    replace Sp9 : Rd u15 pp9 qp9 (jt) := Rd.nx (by repeat (first | with_reducible exact Sp9 | with_reducible apply Rd.al | with_reducible apply Rd.dr | with_reducible apply Rd.dr1)) hb
    replace Sq1 : Rd u15 pq1 qq1 (jz) := Rd.nx (by repeat (first | with_reducible exact Sq1 | with_reducible apply Rd.al | with_reducible apply Rd.dr | with_reducible apply Rd.dr1)) hb
    replace Sq2 : Rd u15 pq2 qq2 (jv) := Rd.nx (by repeat (first | with_reducible exact Sq2 | with_reducible apply Rd.al | with_reducible apply Rd.dr | with_reducible apply Rd.dr1)) hb
    replace K : Kp w u15 := Kp.nx (by repeat (first | with_reducible exact K | with_reducible apply Kp.al | with_reducible apply Kp.dr | with_reducible apply Kp.dr1)) hb
    clear hb
    go_wp2_with fail
    refine (QL.same_yes (xs := jw) (ys := jw) (by repeat (first | with_reducible exact Sp6 | with_reducible apply Rd.al | with_reducible apply Rd.dr | with_reducible apply Rd.dr1)) (by repeat (first | with_reducible exact Sp7 | with_reducible apply Rd.al | with_reducible apply Rd.dr | with_reducible apply Rd.dr1)) rfl rfl (by omega) rfl).mono ?_; rintro e u16 ⟨rfl, hb⟩
    replace Sx : Rd u16 a0 cap0 (xs) := Rd.nx (by repeat (first | with_reducible exact Sx | with_reducible apply Rd.al | with_reducible apply Rd.dr | with_reducible apply Rd.dr1)) hb
    replace Sy : Rd u16 a1 cap1 (ys) := Rd.nx (by repeat (first | with_reducible exact Sy | with_reducible apply Rd.al | with_reducible apply Rd.dr | with_reducible apply Rd.dr1)) hb
    replace Sp1 : Rd u16 pp1 qp1 (jx) := Rd.nx (by repeat (first | with_reducible exact Sp1 | with_reducible apply Rd.al | with_reducible apply Rd.dr | with_reducible apply Rd.dr1)) hb
    replace Sp2 : Rd u16 pp2 qp2 (jy) := Rd.nx (by repeat (first | with_reducible exact Sp2 | with_reducible apply Rd.al | with_reducible apply Rd.dr | with_reducible apply Rd.dr1)) hb
    replace Sp3 : Rd u16 pp3 qp3 (jz) := Rd.nx (by repeat (first | with_reducible exact Sp3 | with_reducible apply Rd.al | with_reducible apply Rd.dr | with_reducible apply Rd.dr1)) hb
    replace Sp4 : Rd u16 pp4 qp4 (ju) := Rd.nx (by repeat (first | with_reducible exact Sp4 | with_reducible apply Rd.al | with_reducible apply Rd.dr | with_reducible apply Rd.dr1)) hb
    replace Sm1 : Rd u16 pm1 qm1 (jm) := Rd.nx (by repeat (first | with_reducible exact Sm1 | with_reducible apply Rd.al | with_reducible apply Rd.dr | with_reducible apply Rd.dr1)) hb
    replace Sp5 : Rd u16 pp5 qp5 (jv) := Rd.nx (by repeat (first | with_reducible exact Sp5 | with_reducible apply Rd.al | with_reducible apply Rd.dr | with_reducible apply Rd.dr1)) hb
    replace Sp6 : Rd u16 pp6 qp6 (jw) := Rd.nx (by repeat (first | with_reducible exact Sp6 | with_reducible apply Rd.al | with_reducible apply Rd.dr | with_reducible apply Rd.dr1)) hb
    replace Sp7 : Rd u16 pp7 qp7 (jw) := Rd.nx (by repeat (first | with_reducible exact Sp7 | with_reducible apply Rd.al | with_reducible apply Rd.dr | with_reducible apply Rd.dr1)) hb
    replace Sp8 : Rd u16 pp8 qp8 (jt) := Rd.nx (by repeat (first | with_reducible exact Sp8 | with_reducible apply Rd.al | with_reducible apply Rd.dr | with_reducible apply Rd.dr1)) hb
    replace Sp9 : Rd u16 pp9 qp9 (jt) := Rd.nx (by repeat (first | with_reducible exact Sp9 | with_reducible apply Rd.al | with_reducible apply Rd.dr | with_reducible apply Rd.dr1)) hb
    replace Sq1 : Rd u16 pq1 qq1 (jz) := Rd.nx (by repeat (first | with_reducible exact Sq1 | with_reducible apply Rd.al | with_reducible apply Rd.dr | with_reducible apply Rd.dr1)) hb
    replace Sq2 : Rd u16 pq2 qq2 (jv) := Rd.nx (by repeat (first | with_reducible exact Sq2 | with_reducible apply Rd.al | with_reducible apply Rd.dr | with_reducible apply Rd.dr1)) hb
    replace K : Kp w u16 := Kp.nx (by repeat (first | with_reducible exact K | with_reducible apply Kp.al | with_reducible apply Kp.dr | with_reducible apply Kp.dr1)) hb
    clear hb
    go_wp2_with fail
    refine (QL.same_yes (xs := jt) (ys := jt) (by repeat (first | with_reducible exact Sp8 | with_reducible apply Rd.al | with_reducible apply Rd.dr | with_reducible apply Rd.dr1)) (by repeat (first | with_reducible exact Sp9 | with_reducible apply Rd.al | with_reducible apply Rd.dr | with_reducible apply Rd.dr1)) rfl rfl (by omega) rfl).mono ?_; rintro e u17 ⟨rfl, hb⟩
    replace Sx : Rd u17 a0 cap0 (xs) := Rd.nx (by repeat (first | with_reducible exact Sx | with_reducible apply Rd.al | with_reducible apply Rd.dr | with_reducible apply Rd.dr1)) hb
    replace Sy : Rd u17 a1 cap1 (ys) := Rd.nx (by repeat (first | with_reducible exact Sy | with_reducible apply Rd.al | with_reducible apply Rd.dr | with_reducible apply Rd.dr1)) hb
    replace Sp1 : Rd u17 pp1 qp1 (jx) := Rd.nx (by repeat (first | with_reducible exact Sp1 | with_reducible apply Rd.al | with_reducible apply Rd.dr | with_reducible apply Rd.dr1)) hb
    replace Sp2 : Rd u17 pp2 qp2 (jy) := Rd.nx (by repeat (first | with_reducible exact Sp2 | with_reducible apply Rd.al | with_reducible apply Rd.dr | with_reducible apply Rd.dr1)) hb
    replace Sp3 : Rd u17 pp3 qp3 (jz) := Rd.nx (by repeat (first | with_reducible exact Sp3 | with_reducible apply Rd.al | with_reducible apply Rd.dr | with_reducible apply Rd.dr1)) hb
    replace Sp4 : Rd u17 pp4 qp4 (ju) := Rd.nx (by repeat (first | with_reducible exact Sp4 | with_reducible apply Rd.al | with_reducible apply Rd.dr | with_reducible apply Rd.dr1)) hb
    replace Sm1 : Rd u17 pm1 qm1 (jm) := Rd.nx (by repeat (first | with_reducible exact Sm1 | with_reducible apply Rd.al | with_reducible apply Rd.dr | with_reducible apply Rd.dr1)) hb
    replace Sp5 : Rd u17 pp5 qp5 (jv) := Rd.nx (by repeat (first | with_reducible exact Sp5 | with_reducible apply Rd.al | with_reducible apply Rd.dr | with_reducible apply Rd.dr1)) hb
    replace Sp6 : Rd u17 pp6 qp6 (jw) := Rd.nx (by repeat (first | with_reducible exact Sp6 | with_reducible apply Rd.al | with_reducible apply Rd.dr | with_reducible apply Rd.dr1)) hb
    replace Sp7 : Rd u17 pp7 qp7 (jw) := Rd.nx (by repeat (first | with_reducible exact Sp7 | with_reducible apply Rd.al | with_reducible apply Rd.dr | with_reducible apply Rd.dr1)) hb
    replace Sp8 : Rd u17 pp8 qp8 (jt) := Rd.nx (by repeat (first | with_reducible exact Sp8 | with_reducible apply Rd.al | with_reducible apply Rd.dr | with_reducible apply Rd.dr1)) hb
    replace Sp9 : Rd u17 pp9 qp9 (jt) := Rd.nx (by repeat (first | with_reducible exact Sp9 | with_reducible apply Rd.al | with_reducible apply Rd.dr | with_reducible apply Rd.dr1)) hb
    replace Sq1 : Rd u17 pq1 qq1 (jz) := Rd.nx (by repeat (first | with_reducible exact Sq1 | with_reducible apply Rd.al | with_reducible apply Rd.dr | with_reducible apply Rd.dr1)) hb
    replace Sq2 : Rd u17 pq2 qq2 (jv) := Rd.nx (by repeat (first | with_reducible exact Sq2 | with_reducible apply Rd.al | with_reducible apply Rd.dr | with_reducible apply Rd.dr1)) hb
    replace K : Kp w u17 := Kp.nx (by repeat (first | with_reducible exact K | with_reducible apply Kp.al | with_reducible apply Kp.dr | with_reducible apply Kp.dr1)) hb
    clear hb
    go_wp2_with fail
    go_ret
    exact ⟨rfl, Kp.below (by repeat (first | with_reducible exact K | with_reducible apply Kp.al | with_reducible apply Kp.dr | with_reducible apply Kp.dr1))⟩
  · rcases (show 3 < xs.length ∨ (xs.length ≤ 3 ∧ 3 < ys.length) by omega) with h4 | ⟨h4, h5⟩
    · clear h3
      go_enter Try.func6, Try.ntmps6
      go_wp2_with fail
      refine (QL.long2 (by simp) false HZ).mono ?_; rintro e w' ⟨rfl, rfl⟩
      go_wp2_with fail
      refine (QL.awake _).mono ?_; rintro e u1 ⟨rfl, hb⟩
      replace Sx : Rd u1 a0 cap0 (xs) := Rd.nx (by repeat (first | with_reducible exact Sx | with_reducible apply Rd.al | with_reducible apply Rd.dr | with_reducible apply Rd.dr1)) hb
      replace Sy : Rd u1 a1 cap1 (ys) := Rd.nx (by repeat (first | with_reducible exact Sy | with_reducible apply Rd.al | with_reducible apply Rd.dr | with_reducible apply Rd.dr1)) hb
      replace K : Kp w u1 := Kp.nx (by repeat (first | with_reducible exact K | with_reducible apply Kp.al | with_reducible apply Kp.dr | with_reducible apply Kp.dr1)) hb
      clear hb
      go_wp2_with fail
      go_ret
      exact ⟨rfl, Kp.below (by repeat (first | with_reducible exact K | with_reducible apply Kp.al | with_reducible apply Kp.dr | with_reducible apply Kp.dr1))⟩
    · clear h3
      go_enter Try.func6, Try.ntmps6
      go_wp2_with fail
      refine (QL.long2 (by simp) false HZ).mono ?_; rintro e w' ⟨rfl, rfl⟩
      go_wp2_with fail
      refine (QL.awake _).mono ?_; rintro e u1 ⟨rfl, hb⟩
      replace Sx : Rd u1 a0 cap0 (xs) := Rd.nx (by repeat (first | with_reducible exact Sx | with_reducible apply Rd.al | with_reducible apply Rd.dr | with_reducible apply Rd.dr1)) hb
      replace Sy : Rd u1 a1 cap1 (ys) := Rd.nx (by repeat (first | with_reducible exact Sy | with_reducible apply Rd.al | with_reducible apply Rd.dr | with_reducible apply Rd.dr1)) hb
      replace K : Kp w u1 := Kp.nx (by repeat (first | with_reducible exact K | with_reducible apply Kp.al | with_reducible apply Kp.dr | with_reducible apply Kp.dr1)) hb
      clear hb
      go_wp2_with fail
      go_ret
      exact ⟨rfl, Kp.below (by repeat (first | with_reducible exact K | with_reducible apply Kp.al | with_reducible apply Kp.dr | with_reducible apply Kp.dr1))⟩

/-! ### THE ROW's STEP: WRITTEN OUT: LEAVE IT -/
set_option maxRecDepth 100000 in
theorem lifted (os : Os) (started : os.Started) (H : Type) (enc : TypeId × Value → H) :
    ReturnsInHanded {} Try.checked os 6 .any (Rows.quoRaisedSpec.pre6 enc Try.prog Try.f6 Rows.quoRaisedRow.domain false) (Rows.quoRaisedSpec.post enc Try.prog Try.f6 false true false false) := by
  refine returnsInHanded_of_change (C := Try.checked) own started (by kernel_rfl) Try.func6
    (ChangeSpec.witness6 (enc := enc) (C := Try.checked) false ⟨#[], #[.slice none 0 0, .slice none 0 0, .int .u8 0, .int .u8 0], []⟩ 8 (by kernel_rfl) (by kernel_rfl) (by kernel_rfl) (by kernel_rfl)) ?_
  intro W base args ds gs before hval0 hW hcnd _
  have hval : ∀ (j : Nat) t v, Try.f6.params[j]? = some t → args[j]? = some v → Value.okWide Try.prog W .any base t v := hval0
  have hW' := hW
  obtain ⟨p, q, hA0, hV, rfl, hfz, hnd⟩ := hW
  have hA : DataW.TrodAll enc Try.prog W 0 (fun _ => true) true Try.f6.params.toList args.toList ds p := hA0
  rw [Try.params6] at hA hval
  obtain ⟨v0, vs0, d0, ds0, p0, q0, hargs, rfl, rfl, h0, r0⟩ := trodAll_cons hA
  obtain ⟨v1, vs1, d1, ds1, p1, q1, rfl, rfl, rfl, h1, r1⟩ := trodAll_cons r0
  obtain ⟨v2, vs2, d2, ds2, p2, q2, rfl, rfl, rfl, h2, r2⟩ := trodAll_cons r1
  obtain ⟨v3, vs3, d3, ds3, p3, q3, rfl, rfl, rfl, h3, r3⟩ := trodAll_cons r2
  obtain ⟨rfl, rfl, rfl⟩ := trodAll_nil r3
  obtain rfl : args = #[v0, v1, v2, v3] := by cases args; simp_all
  obtain ⟨rfl, rfl⟩ := trodVars_none hV
  obtain ⟨a0, len0, cap0, rfl⟩ := okWide_slice Try.underlying23 (hval 0 23 v0 rfl rfl)
  have k0 := h0
  have lt0 : ∀ x ∈ p0, x.block < W.heap.size := by obtain ⟨m, hm⟩ := k0; exact DataW.trod_lt m _ _ _ hm
  obtain ⟨z0, w0⟩ : ∃ zs, IsRow .u64 W a0 len0 cap0 zs := by
    obtain ⟨fuel, hf⟩ := h0
    rcases open_ints Try.underlying23 Try.underlying36 (by kernel_rfl) hf with ⟨hcs, _⟩ | ⟨x, l, c, zs, hcs, _, hl, hm, hz, _, hcell, hwz⟩
    · simp [Value.cells] at hcs
      obtain ⟨rfl, rfl, rfl⟩ := hcs
      exact ⟨[], .inl ⟨rfl, rfl, rfl, rfl⟩⟩
    · simp [Value.cells] at hcs
      obtain ⟨rfl, rfl, rfl⟩ := hcs
      exact ⟨zs, .inr ⟨_, rfl, hl, hm, by simpa using hz, hcell, hwz⟩⟩
  obtain ⟨a1, len1, cap1, rfl⟩ := okWide_slice Try.underlying23 (hval 1 23 v1 rfl rfl)
  have k1 := h1
  have lt1 : ∀ x ∈ p1, x.block < W.heap.size := by obtain ⟨m, hm⟩ := k1; exact DataW.trod_lt m _ _ _ hm
  obtain ⟨z1, w1⟩ : ∃ zs, IsRow .u64 W a1 len1 cap1 zs := by
    obtain ⟨fuel, hf⟩ := h1
    rcases open_ints Try.underlying23 Try.underlying36 (by kernel_rfl) hf with ⟨hcs, _⟩ | ⟨x, l, c, zs, hcs, _, hl, hm, hz, _, hcell, hwz⟩
    · simp [Value.cells] at hcs
      obtain ⟨rfl, rfl, rfl⟩ := hcs
      exact ⟨[], .inl ⟨rfl, rfl, rfl, rfl⟩⟩
    · simp [Value.cells] at hcs
      obtain ⟨rfl, rfl, rfl⟩ := hcs
      exact ⟨zs, .inr ⟨_, rfl, hl, hm, by simpa using hz, hcell, hwz⟩⟩
  obtain ⟨a2, rfl, rfl, rfl, w2⟩ := open_int Try.underlying5 (hval 2 5 v2 rfl rfl) h2
  obtain ⟨a3, rfl, rfl, rfl, w3⟩ := open_int Try.underlying5 (hval 3 5 v3 rfl rfl) h3
  clear hA0 hval0
  refine (walk a0 len0 cap0 z0 a1 len1 cap1 z1 a2 a3 W w0 w1 w2 w3).mono fun e W' ⟨he, bel⟩ => ?_
  subst he
  exact ⟨_, rfl, _, _, _, [], _, [], hW', trodAll_mk1 (shut_bool Try.underlying4 _), (trodAll_cons_mk (Below.trod laidOut (by kernel_rfl) (of_decide_eq_true (by kernel_rfl)) k0 bel lt0) (trodAll_cons_mk (Below.trod laidOut (by kernel_rfl) (of_decide_eq_true (by kernel_rfl)) k1 bel lt1) (trodAll_cons_mk (shut_int Try.underlying5 w2) (trodAll_cons_mk (shut_int Try.underlying5 w3) trodAll_mk0)))), rfl, bel.frame _, fun h => by cases h⟩

theorem over : Rows.quoRaisedRow.holds Try.pinned (OpenSpec.ofChange Rows.quoRaisedSpec) :=
  OpenClaim.holds_of_wide 6 Try.f6 rfl rfl rfl rfl rfl rfl rfl ⟨rfl, rfl, rfl, rfl, rfl⟩ rfl rfl rfl rfl rfl (by kernel_rfl) Try.func6 (by kernel_rfl)
    (of_decide_eq_true (by kernel_rfl)) (by unfold Func.isWrapper; first | (rw [if_pos (by decide +kernel)]; kernel_rfl) | (rw [if_neg (by decide +kernel)]; exact ⟨rfl, rfl⟩))
    (fun os started H enc _ => lifted os started H enc)

/-- ████ THE STATEMENT ████ -/
theorem proved : Rows.QuoRaisedSaid := over
#print axioms proved
end Go.Proofs.Ytepndjcncmkkkaa.quoRaised
