/- The statement QuoTails: with 0s at the end all calls tell the same; nothing that is told has any. No condition. -/
import Derived.Test.YtepndjcncmkkkaaRows
import Derived.WalkKit
import Derived.ProofKit
import Derived.OpenShut
import Derived.Test.YtepndjcncmkkkaaQuoClone
import Derived.Test.YtepndjcncmkkkaaNatTail
import Derived.ShutString
import Derived.ChangeOld
import Derived.Below
namespace Go.Proofs.Ytepndjcncmkkkaa.quoTails
open Go.ChangeShapes Go.WideShapes Go.ChangeAt Go.RowKit
open Go.Proofs
open Go.ChangeMaps (open_string shut_string)
set_option linter.unusedVariables false

theorem own : ownKnob Try.prog.godebug = none := by kernel_rfl
theorem laidOut : laidOutB Try.prog = true := by kernel_rfl

/-- WHAT THE WALK IS TOLD OF A SLICE OF INTEGERS THAT CAME IN: it is nil; or it leads to a row of 'cap' cells, the numbers 'zs' (the first 'len' are its elements, the rest its spare room), each fitting its kind. -/
def IsRow (k : IntKind) (w : World) (a : Option Addr) (len cap : Nat) (zs : List Int) : Prop :=
  (a = none ∧ len = 0 ∧ cap = 0 ∧ zs = []) ∨
  ∃ x, a = some x ∧ len ≤ cap ∧ cap ≤ maxLen ∧ zs.length = cap ∧ (∀ i, i < zs.length → w.cell? (x.add i) = some (.int k (zs.getD i 0))) ∧ ∀ n ∈ zs, (Lit.int k n).wf = true

open Go.Proofs.NP Go.Proofs.SL Go.Proofs.NR Go.Lib
set_option linter.unusedSimpArgs false
theorem drlen {x y i : Nat} (h : Fits x i) : (QR.drL x y).length ≤ i := by
  unfold QR.drL; split
  · simp
  · exact (h.mono (Nat.mod_le _ _)).len
theorem nat8 (a : Int) (h : (Lit.int .u8 a).wf = true) : ∃ n : Nat, a = (n : Int) ∧ n ≤ 255 ∧ Hid (wrap64 (n : Int) = (n : Int)) := by
  have ⟨h0, h1⟩ := bounds_u8 h
  refine ⟨a.toNat, by omega, by omega, Lib.hid ?_⟩
  unfold wrap64; omega

/-! ### STEP 1: THE WALK: the Go text returns true, AND WRITES NOTHING THAT WAS THERE: 'Below w.heap.size w w'' (Derived/Below.lean: '.refl', '.alloc', '.drew', '.setCell' at a new block, '.trans'). Open each 'IsRow' by 'rcases' AHEAD of 'go_enter'; part every test ahead of the walk. -/
set_option maxHeartbeats 16000000 in
set_option maxRecDepth 100000 in
theorem walk (a0 : Option Addr) (len0 cap0 : Nat) (z0 : List Int) (a1 : Option Addr) (len1 cap1 : Nat) (z1 : List Int) (a2 : Int) (a3 : Int) (a4 : Int) (w : World) (w0 : IsRow .u64 w a0 len0 cap0 z0) (w1 : IsRow .u64 w a1 len1 cap1 z1) (w2 : (Lit.int .u8 a2).wf = true) (w3 : (Lit.int .u8 a3).wf = true) (w4 : (Lit.int .u8 a4).wf = true) :
    Calls Try.prog 7 #[.slice a0 len0 cap0, .slice a1 len1 cap1, .int .u8 a2, .int .u8 a3, .int .u8 a4] w fun e w' => e = .returned (.bool true) ∧ Below w.heap.size w w' := by
  obtain ⟨xs, rfl, Sx⟩ := QL.rows w0
  obtain ⟨ys, rfl, Sy⟩ := QL.rows w1
  have K : Kp w w := Kp.refl w
  have HC0 := Lib.hid (LN.rows_cap w0)
  have HC1 := Lib.hid (LN.rows_cap w1)
  obtain ⟨n, rfl, bn, Hn⟩ := nat8 a2 w2
  obtain ⟨m, rfl, bm, Hm⟩ := nat8 a3 w3
  obtain ⟨pw, rfl, bpw, Hpw⟩ := nat8 a4 w4
  clear w2 w3 w4
  clear w0 w1
  by_cases hs : ¬ (xs.length ≤ 12 ∧ ys.length ≤ 12)
  · have hz : true = (decide (12 < xs.length) || decide (12 < ys.length)) := by simp; omega
    clear hs
    have HZ := Lib.hid hz; clear hz
    go_enter Try.func7, Try.ntmps7
    go_wp2_with fail
    refine (QL.long2 (by simp) true HZ).mono ?_; rintro e w' ⟨rfl, rfl⟩
    go_wp2_with fail
    refine (QL.awake _).mono ?_; rintro e u1 ⟨rfl, hb⟩
    replace Sx : Rd u1 a0 cap0 (xs) := Rd.nx (by repeat (first | with_reducible exact Sx | with_reducible apply Rd.al | with_reducible apply Rd.dr | with_reducible apply Rd.dr1)) hb
    replace Sy : Rd u1 a1 cap1 (ys) := Rd.nx (by repeat (first | with_reducible exact Sy | with_reducible apply Rd.al | with_reducible apply Rd.dr | with_reducible apply Rd.dr1)) hb
    replace K : Kp w u1 := Kp.nx (by repeat (first | with_reducible exact K | with_reducible apply Kp.al | with_reducible apply Kp.dr | with_reducible apply Kp.dr1)) hb
    clear hb
    go_wp2_with fail
    go_ret
    exact ⟨rfl, Kp.below (by repeat (first | with_reducible exact K | with_reducible apply Kp.al | with_reducible apply Kp.dr | with_reducible apply Kp.dr1))⟩
  obtain ⟨n0, n1⟩ : xs.length ≤ 12 ∧ ys.length ≤ 12 := by omega
  clear hs
  have fx : Fits (V xs) 12 := Fits.of Sx.ws (by omega)
  have fy : Fits (V ys) 12 := Fits.of Sy.ws (by omega)
  have hz : false = (decide (12 < xs.length) || decide (12 < ys.length)) := by simp; omega
  have HZ := Lib.hid hz; clear hz
  obtain ⟨k, hk⟩ : ∃ k, k = pw % 5 := ⟨_, rfl⟩
  have hk4 : k ≤ 4 := by omega
  obtain ⟨jq, hjq⟩ : ∃ z, z = L (V xs / V ys) := ⟨_, rfl⟩
  have ljq : jq.length ≤ 12 := by rw [hjq]; exact (fx.div _).len
  have Hjq := Lib.hid hjq; clear hjq
  obtain ⟨jr, hjr⟩ : ∃ z, z = QR.drL (V xs) (V ys) := ⟨_, rfl⟩
  have ljr : jr.length ≤ 12 := by rw [hjr]; exact drlen fx
  have Hjr := Lib.hid hjr; clear hjr
  obtain ⟨je, hje⟩ : ∃ z, z = QR.dE (V ys) := ⟨_, rfl⟩
  have Hje := Lib.hid hje; clear hje
  obtain ⟨jd, hjd⟩ : ∃ z, z = L (Nat.gcd (V xs) (V ys)) := ⟨_, rfl⟩
  have ljd : jd.length ≤ 24 := by rw [hjd]; exact (QL.fgcd fx fy).len
  have Hjd := Lib.hid hjd; clear hjd
  obtain ⟨ju, hju⟩ : ∃ z, z = L (V xs ^ k) := ⟨_, rfl⟩
  have lju : ju.length ≤ 49 := by rw [hju]; exact Nat.le_trans (QL.fpow fx k).len (by omega)
  have Hju := Lib.hid hju; clear hju
  have HB := Lib.hid (show bitLen (V xs) * k ≤ 1048576 from Nat.le_trans (Nat.mul_le_mul (LN.bitLen_fits fx) hk4) (by decide))
  have HKK := Lib.hid (show ((pw : Int) % 5) = (k : Int) by omega)
  have IQ := Lib.hid (show jq = L (V jq) by rw [Hjq.out, V_L])
  have IR := Lib.hid (show jr = L (V jr) by rw [Hjr.out]; exact QL.drL_idem _ _)
  have ID := Lib.hid (show jd = L (V jd) by rw [Hjd.out, V_L])
  have IU := Lib.hid (show ju = L (V ju) by rw [Hju.out, V_L])
  obtain ⟨xz, hxz⟩ : ∃ z, z = xs ++ List.replicate (n % 5) 0 := ⟨_, rfl⟩
  have lxz : xz.length ≤ 16 := by rw [hxz, List.length_append, List.length_replicate]; omega
  have VX := Lib.hid (show V xz = V xs by rw [hxz]; exact QL.V_zs _ _)
  have Hxz := Lib.hid hxz; clear hxz
  obtain ⟨yz, hyz⟩ : ∃ z, z = ys ++ List.replicate (m % 5) 0 := ⟨_, rfl⟩
  have lyz : yz.length ≤ 16 := by rw [hyz, List.length_append, List.length_replicate]; omega
  have VY := Lib.hid (show V yz = V ys by rw [hyz]; exact QL.V_zs _ _)
  have Hyz := Lib.hid hyz; clear hyz
  clear hk
  go_enter Try.func7, Try.ntmps7
  go_wp2_with fail
  refine (QL.long2 (by simp) false HZ).mono ?_; rintro e w' ⟨rfl, rfl⟩
  go_wp2_with fail
  refine (QL.awake _).mono ?_; rintro e u1 ⟨rfl, hb⟩
  replace Sx : Rd u1 a0 cap0 (xs) := Rd.nx (by repeat (first | with_reducible exact Sx | with_reducible apply Rd.al | with_reducible apply Rd.dr | with_reducible apply Rd.dr1)) hb
  replace Sy : Rd u1 a1 cap1 (ys) := Rd.nx (by repeat (first | with_reducible exact Sy | with_reducible apply Rd.al | with_reducible apply Rd.dr | with_reducible apply Rd.dr1)) hb
  replace K : Kp w u1 := Kp.nx (by repeat (first | with_reducible exact K | with_reducible apply Kp.al | with_reducible apply Kp.dr | with_reducible apply Kp.dr1)) hb
  clear hb
  obtain ⟨gc1, qc1, u2, hr, ho, hb⟩ := QL.run_clone u1 u1.heap.size a0 cap0 xs.length xs (by repeat (first | with_reducible exact Sx | with_reducible apply Rd.al | with_reducible apply Rd.dr | with_reducible apply Rd.dr1)) rfl (by omega) HC0.out (by simp)
  have HRc1 := Lib.hid hr; clear hr
  obtain ⟨gx1, qx1, u3, hr, ho2, hg⟩ := QL.run_zeros8 u2 gc1 qc1 xs.length xs xz ho rfl (by omega) ((n : Int) % 5) (n % 5) (by omega) (by omega) hb.size Hxz.out
  have HRx1 := Lib.hid hr; clear hr
  have hk2 : Kp u1 u3 := Below.grown hb hg hb.size (fun k hk => by cases hk; exact ho.ge.1)
  replace Sx : Rd u3 a0 cap0 (xs) := Rd.nx Sx hk2
  replace Sy : Rd u3 a1 cap1 (ys) := Rd.nx Sy hk2
  replace K : Kp w u3 := Kp.nx K hk2
  have Sx1 : Rd u3 (some ⟨gx1, 0, none⟩) qx1 (xz) := ho2.rd
  clear ho ho2 hb hg hk2
  obtain ⟨gc2, qc2, u4, hr, ho, hb⟩ := QL.run_clone u3 u3.heap.size a1 cap1 ys.length ys (by repeat (first | with_reducible exact Sy | with_reducible apply Rd.al | with_reducible apply Rd.dr | with_reducible apply Rd.dr1)) rfl (by omega) HC1.out (by simp)
  have HRc2 := Lib.hid hr; clear hr
  obtain ⟨gy1, qy1, u5, hr, ho2, hg⟩ := QL.run_zeros8 u4 gc2 qc2 ys.length ys yz ho rfl (by omega) ((m : Int) % 5) (m % 5) (by omega) (by omega) hb.size Hyz.out
  have HRy1 := Lib.hid hr; clear hr
  have hk2 : Kp u3 u5 := Below.grown hb hg hb.size (fun k hk => by cases hk; exact ho.ge.1)
  replace Sx : Rd u5 a0 cap0 (xs) := Rd.nx Sx hk2
  replace Sy : Rd u5 a1 cap1 (ys) := Rd.nx Sy hk2
  replace Sx1 : Rd u5 (some ⟨gx1, 0, none⟩) qx1 (xz) := Rd.nx Sx1 hk2
  replace K : Kp w u5 := Kp.nx K hk2
  have Sy1 : Rd u5 (some ⟨gy1, 0, none⟩) qy1 (yz) := ho2.rd
  clear ho ho2 hb hg hk2
  go_wp2_with (first | (at_builtin; refine Lib.wpList_append_run_sl _ rfl _ _ _ rfl (.slice (some ⟨u1.heap.size, 0, none⟩) 0 0) (.slice a0 xs.length cap0) rfl rfl HRc1.out ?_) | (at_builtin; refine Lib.wpList_append_run _ rfl _ _ _ _ rfl (.slice (some ⟨gc1, 0, none⟩) xs.length qc1) (.int .u8 ((n : Int) % 5)) rfl rfl _ _ HRx1.out ?_) | (at_builtin; refine Lib.wpList_append_run_sl _ rfl _ _ _ rfl (.slice (some ⟨u3.heap.size, 0, none⟩) 0 0) (.slice a1 ys.length cap1) rfl rfl HRc2.out ?_) | (at_builtin; refine Lib.wpList_append_run _ rfl _ _ _ _ rfl (.slice (some ⟨gc2, 0, none⟩) ys.length qc2) (.int .u8 ((m : Int) % 5)) rfl rfl _ _ HRy1.out ?_))
  clear HRc1 HRx1 HRc2 HRy1
  go_wp2_with fail
  refine (QR.div1 (xs := xs) (ys := ys) (by repeat (first | with_reducible exact Sx | with_reducible apply Rd.al | with_reducible apply Rd.dr | with_reducible apply Rd.dr1)) (by repeat (first | with_reducible exact Sy | with_reducible apply Rd.al | with_reducible apply Rd.dr | with_reducible apply Rd.dr1)) rfl rfl (by omega) (by omega) jq jr je Hjq.out Hjr.out Hje.out).mono ?_; rintro e u6 ⟨pq1, qq1, pr1, qr1, rfl, ho, ho2, _, hb⟩
  replace Sx : Rd u6 a0 cap0 (xs) := Rd.nx (by repeat (first | with_reducible exact Sx | with_reducible apply Rd.al | with_reducible apply Rd.dr | with_reducible apply Rd.dr1)) hb
  replace Sy : Rd u6 a1 cap1 (ys) := Rd.nx (by repeat (first | with_reducible exact Sy | with_reducible apply Rd.al | with_reducible apply Rd.dr | with_reducible apply Rd.dr1)) hb
  replace Sx1 : Rd u6 (some ⟨gx1, 0, none⟩) qx1 (xz) := Rd.nx (by repeat (first | with_reducible exact Sx1 | with_reducible apply Rd.al | with_reducible apply Rd.dr | with_reducible apply Rd.dr1)) hb
  replace Sy1 : Rd u6 (some ⟨gy1, 0, none⟩) qy1 (yz) := Rd.nx (by repeat (first | with_reducible exact Sy1 | with_reducible apply Rd.al | with_reducible apply Rd.dr | with_reducible apply Rd.dr1)) hb
  replace K : Kp w u6 := Kp.nx (by repeat (first | with_reducible exact K | with_reducible apply Kp.al | with_reducible apply Kp.dr | with_reducible apply Kp.dr1)) hb
  have Sq1 : Rd u6 pq1 qq1 (jq) := ho.rd
  have Sr1 : Rd u6 pr1 qr1 (jr) := ho2.rd
  clear ho ho2 hb
  go_wp2_with fail
  refine (QR.div1 (xs := xz) (ys := yz) (by repeat (first | with_reducible exact Sx1 | with_reducible apply Rd.al | with_reducible apply Rd.dr | with_reducible apply Rd.dr1)) (by repeat (first | with_reducible exact Sy1 | with_reducible apply Rd.al | with_reducible apply Rd.dr | with_reducible apply Rd.dr1)) rfl rfl (by omega) (by omega) jq jr je (by rw [VX.out, VY.out]; exact Hjq.out) (by rw [VX.out, VY.out]; exact Hjr.out) (by rw [VY.out]; exact Hje.out)).mono ?_; rintro e u7 ⟨pq2, qq2, pr2, qr2, rfl, ho, ho2, _, hb⟩
  replace Sx : Rd u7 a0 cap0 (xs) := Rd.nx (by repeat (first | with_reducible exact Sx | with_reducible apply Rd.al | with_reducible apply Rd.dr | with_reducible apply Rd.dr1)) hb
  replace Sy : Rd u7 a1 cap1 (ys) := Rd.nx (by repeat (first | with_reducible exact Sy | with_reducible apply Rd.al | with_reducible apply Rd.dr | with_reducible apply Rd.dr1)) hb
  replace Sx1 : Rd u7 (some ⟨gx1, 0, none⟩) qx1 (xz) := Rd.nx (by repeat (first | with_reducible exact Sx1 | with_reducible apply Rd.al | with_reducible apply Rd.dr | with_reducible apply Rd.dr1)) hb
  replace Sy1 : Rd u7 (some ⟨gy1, 0, none⟩) qy1 (yz) := Rd.nx (by repeat (first | with_reducible exact Sy1 | with_reducible apply Rd.al | with_reducible apply Rd.dr | with_reducible apply Rd.dr1)) hb
  replace Sq1 : Rd u7 pq1 qq1 (jq) := Rd.nx (by repeat (first | with_reducible exact Sq1 | with_reducible apply Rd.al | with_reducible apply Rd.dr | with_reducible apply Rd.dr1)) hb
  replace Sr1 : Rd u7 pr1 qr1 (jr) := Rd.nx (by repeat (first | with_reducible exact Sr1 | with_reducible apply Rd.al | with_reducible apply Rd.dr | with_reducible apply Rd.dr1)) hb
  replace K : Kp w u7 := Kp.nx (by repeat (first | with_reducible exact K | with_reducible apply Kp.al | with_reducible apply Kp.dr | with_reducible apply Kp.dr1)) hb
  have Sq2 : Rd u7 pq2 qq2 (jq) := ho.rd
  have Sr2 : Rd u7 pr2 qr2 (jr) := ho2.rd
  clear ho ho2 hb
  go_wp2_with fail
  refine (QR.gcd1 (zs := jd) (xs := xs) (ys := ys) (by repeat (first | with_reducible exact Sx | with_reducible apply Rd.al | with_reducible apply Rd.dr | with_reducible apply Rd.dr1)) (by repeat (first | with_reducible exact Sy | with_reducible apply Rd.al | with_reducible apply Rd.dr | with_reducible apply Rd.dr1)) rfl rfl (by omega) (by omega) Hjd.out).mono ?_; rintro e u8 ⟨pd1, qd1, rfl, ho, hb⟩
  replace Sx : Rd u8 a0 cap0 (xs) := Rd.nx (by repeat (first | with_reducible exact Sx | with_reducible apply Rd.al | with_reducible apply Rd.dr | with_reducible apply Rd.dr1)) hb
  replace Sy : Rd u8 a1 cap1 (ys) := Rd.nx (by repeat (first | with_reducible exact Sy | with_reducible apply Rd.al | with_reducible apply Rd.dr | with_reducible apply Rd.dr1)) hb
  replace Sx1 : Rd u8 (some ⟨gx1, 0, none⟩) qx1 (xz) := Rd.nx (by repeat (first | with_reducible exact Sx1 | with_reducible apply Rd.al | with_reducible apply Rd.dr | with_reducible apply Rd.dr1)) hb
  replace Sy1 : Rd u8 (some ⟨gy1, 0, none⟩) qy1 (yz) := Rd.nx (by repeat (first | with_reducible exact Sy1 | with_reducible apply Rd.al | with_reducible apply Rd.dr | with_reducible apply Rd.dr1)) hb
  replace Sq1 : Rd u8 pq1 qq1 (jq) := Rd.nx (by repeat (first | with_reducible exact Sq1 | with_reducible apply Rd.al | with_reducible apply Rd.dr | with_reducible apply Rd.dr1)) hb
  replace Sr1 : Rd u8 pr1 qr1 (jr) := Rd.nx (by repeat (first | with_reducible exact Sr1 | with_reducible apply Rd.al | with_reducible apply Rd.dr | with_reducible apply Rd.dr1)) hb
  replace Sq2 : Rd u8 pq2 qq2 (jq) := Rd.nx (by repeat (first | with_reducible exact Sq2 | with_reducible apply Rd.al | with_reducible apply Rd.dr | with_reducible apply Rd.dr1)) hb
  replace Sr2 : Rd u8 pr2 qr2 (jr) := Rd.nx (by repeat (first | with_reducible exact Sr2 | with_reducible apply Rd.al | with_reducible apply Rd.dr | with_reducible apply Rd.dr1)) hb
  replace K : Kp w u8 := Kp.nx (by repeat (first | with_reducible exact K | with_reducible apply Kp.al | with_reducible apply Kp.dr | with_reducible apply Kp.dr1)) hb
  have Sd1 : Rd u8 pd1 qd1 (jd) := ho.rd
  clear ho hb
  go_wp2_with fail
  refine (QR.gcd1 (zs := jd) (xs := xz) (ys := yz) (by repeat (first | with_reducible exact Sx1 | with_reducible apply Rd.al | with_reducible apply Rd.dr | with_reducible apply Rd.dr1)) (by repeat (first | with_reducible exact Sy1 | with_reducible apply Rd.al | with_reducible apply Rd.dr | with_reducible apply Rd.dr1)) rfl rfl (by omega) (by omega) (by rw [VX.out, VY.out]; exact Hjd.out)).mono ?_; rintro e u9 ⟨pd2, qd2, rfl, ho, hb⟩
  replace Sx : Rd u9 a0 cap0 (xs) := Rd.nx (by repeat (first | with_reducible exact Sx | with_reducible apply Rd.al | with_reducible apply Rd.dr | with_reducible apply Rd.dr1)) hb
  replace Sy : Rd u9 a1 cap1 (ys) := Rd.nx (by repeat (first | with_reducible exact Sy | with_reducible apply Rd.al | with_reducible apply Rd.dr | with_reducible apply Rd.dr1)) hb
  replace Sx1 : Rd u9 (some ⟨gx1, 0, none⟩) qx1 (xz) := Rd.nx (by repeat (first | with_reducible exact Sx1 | with_reducible apply Rd.al | with_reducible apply Rd.dr | with_reducible apply Rd.dr1)) hb
  replace Sy1 : Rd u9 (some ⟨gy1, 0, none⟩) qy1 (yz) := Rd.nx (by repeat (first | with_reducible exact Sy1 | with_reducible apply Rd.al | with_reducible apply Rd.dr | with_reducible apply Rd.dr1)) hb
  replace Sq1 : Rd u9 pq1 qq1 (jq) := Rd.nx (by repeat (first | with_reducible exact Sq1 | with_reducible apply Rd.al | with_reducible apply Rd.dr | with_reducible apply Rd.dr1)) hb
  replace Sr1 : Rd u9 pr1 qr1 (jr) := Rd.nx (by repeat (first | with_reducible exact Sr1 | with_reducible apply Rd.al | with_reducible apply Rd.dr | with_reducible apply Rd.dr1)) hb
  replace Sq2 : Rd u9 pq2 qq2 (jq) := Rd.nx (by repeat (first | with_reducible exact Sq2 | with_reducible apply Rd.al | with_reducible apply Rd.dr | with_reducible apply Rd.dr1)) hb
  replace Sr2 : Rd u9 pr2 qr2 (jr) := Rd.nx (by repeat (first | with_reducible exact Sr2 | with_reducible apply Rd.al | with_reducible apply Rd.dr | with_reducible apply Rd.dr1)) hb
  replace Sd1 : Rd u9 pd1 qd1 (jd) := Rd.nx (by repeat (first | with_reducible exact Sd1 | with_reducible apply Rd.al | with_reducible apply Rd.dr | with_reducible apply Rd.dr1)) hb
  replace K : Kp w u9 := Kp.nx (by repeat (first | with_reducible exact K | with_reducible apply Kp.al | with_reducible apply Kp.dr | with_reducible apply Kp.dr1)) hb
  have Sd2 : Rd u9 pd2 qd2 (jd) := ho.rd
  clear ho hb
  go_wp2_with fail
  try rw [HKK.out]
  go_wp2_with fail
  refine (QL.powI (zs := ju) (xs := xs) (by repeat (first | with_reducible exact Sx | with_reducible apply Rd.al | with_reducible apply Rd.dr | with_reducible apply Rd.dr1)) rfl (by omega) (k : Int) k rfl (by omega) HB.out Hju.out).mono ?_; rintro e u10 ⟨pv1, qv1, rfl, ho, hb⟩
  replace Sx : Rd u10 a0 cap0 (xs) := Rd.nx (by repeat (first | with_reducible exact Sx | with_reducible apply Rd.al | with_reducible apply Rd.dr | with_reducible apply Rd.dr1)) hb
  replace Sy : Rd u10 a1 cap1 (ys) := Rd.nx (by repeat (first | with_reducible exact Sy | with_reducible apply Rd.al | with_reducible apply Rd.dr | with_reducible apply Rd.dr1)) hb
  replace Sx1 : Rd u10 (some ⟨gx1, 0, none⟩) qx1 (xz) := Rd.nx (by repeat (first | with_reducible exact Sx1 | with_reducible apply Rd.al | with_reducible apply Rd.dr | with_reducible apply Rd.dr1)) hb
  replace Sy1 : Rd u10 (some ⟨gy1, 0, none⟩) qy1 (yz) := Rd.nx (by repeat (first | with_reducible exact Sy1 | with_reducible apply Rd.al | with_reducible apply Rd.dr | with_reducible apply Rd.dr1)) hb
  replace Sq1 : Rd u10 pq1 qq1 (jq) := Rd.nx (by repeat (first | with_reducible exact Sq1 | with_reducible apply Rd.al | with_reducible apply Rd.dr | with_reducible apply Rd.dr1)) hb
  replace Sr1 : Rd u10 pr1 qr1 (jr) := Rd.nx (by repeat (first | with_reducible exact Sr1 | with_reducible apply Rd.al | with_reducible apply Rd.dr | with_reducible apply Rd.dr1)) hb
  replace Sq2 : Rd u10 pq2 qq2 (jq) := Rd.nx (by repeat (first | with_reducible exact Sq2 | with_reducible apply Rd.al | with_reducible apply Rd.dr | with_reducible apply Rd.dr1)) hb
  replace Sr2 : Rd u10 pr2 qr2 (jr) := Rd.nx (by repeat (first | with_reducible exact Sr2 | with_reducible apply Rd.al | with_reducible apply Rd.dr | with_reducible apply Rd.dr1)) hb
  replace Sd1 : Rd u10 pd1 qd1 (jd) := Rd.nx (by repeat (first | with_reducible exact Sd1 | with_reducible apply Rd.al | with_reducible apply Rd.dr | with_reducible apply Rd.dr1)) hb
  replace Sd2 : Rd u10 pd2 qd2 (jd) := Rd.nx (by repeat (first | with_reducible exact Sd2 | with_reducible apply Rd.al | with_reducible apply Rd.dr | with_reducible apply Rd.dr1)) hb
  replace K : Kp w u10 := Kp.nx (by repeat (first | with_reducible exact K | with_reducible apply Kp.al | with_reducible apply Kp.dr | with_reducible apply Kp.dr1)) hb
  have Sv1 : Rd u10 pv1 qv1 (ju) := ho.rd
  clear ho hb
  go_wp2_with fail
  try rw [HKK.out]
  go_wp2_with fail
  refine (QL.powI (zs := ju) (xs := xz) (by repeat (first | with_reducible exact Sx1 | with_reducible apply Rd.al | with_reducible apply Rd.dr | with_reducible apply Rd.dr1)) rfl (by omega) (k : Int) k rfl (by omega) (by rw [VX.out]; exact HB.out) (by rw [VX.out]; exact Hju.out)).mono ?_; rintro e u11 ⟨pv2, qv2, rfl, ho, hb⟩
  replace Sx : Rd u11 a0 cap0 (xs) := Rd.nx (by repeat (first | with_reducible exact Sx | with_reducible apply Rd.al | with_reducible apply Rd.dr | with_reducible apply Rd.dr1)) hb
  replace Sy : Rd u11 a1 cap1 (ys) := Rd.nx (by repeat (first | with_reducible exact Sy | with_reducible apply Rd.al | with_reducible apply Rd.dr | with_reducible apply Rd.dr1)) hb
  replace Sx1 : Rd u11 (some ⟨gx1, 0, none⟩) qx1 (xz) := Rd.nx (by repeat (first | with_reducible exact Sx1 | with_reducible apply Rd.al | with_reducible apply Rd.dr | with_reducible apply Rd.dr1)) hb
  replace Sy1 : Rd u11 (some ⟨gy1, 0, none⟩) qy1 (yz) := Rd.nx (by repeat (first | with_reducible exact Sy1 | with_reducible apply Rd.al | with_reducible apply Rd.dr | with_reducible apply Rd.dr1)) hb
  replace Sq1 : Rd u11 pq1 qq1 (jq) := Rd.nx (by repeat (first | with_reducible exact Sq1 | with_reducible apply Rd.al | with_reducible apply Rd.dr | with_reducible apply Rd.dr1)) hb
  replace Sr1 : Rd u11 pr1 qr1 (jr) := Rd.nx (by repeat (first | with_reducible exact Sr1 | with_reducible apply Rd.al | with_reducible apply Rd.dr | with_reducible apply Rd.dr1)) hb
  replace Sq2 : Rd u11 pq2 qq2 (jq) := Rd.nx (by repeat (first | with_reducible exact Sq2 | with_reducible apply Rd.al | with_reducible apply Rd.dr | with_reducible apply Rd.dr1)) hb
  replace Sr2 : Rd u11 pr2 qr2 (jr) := Rd.nx (by repeat (first | with_reducible exact Sr2 | with_reducible apply Rd.al | with_reducible apply Rd.dr | with_reducible apply Rd.dr1)) hb
  replace Sd1 : Rd u11 pd1 qd1 (jd) := Rd.nx (by repeat (first | with_reducible exact Sd1 | with_reducible apply Rd.al | with_reducible apply Rd.dr | with_reducible apply Rd.dr1)) hb
  replace Sd2 : Rd u11 pd2 qd2 (jd) := Rd.nx (by repeat (first | with_reducible exact Sd2 | with_reducible apply Rd.al | with_reducible apply Rd.dr | with_reducible apply Rd.dr1)) hb
  replace Sv1 : Rd u11 pv1 qv1 (ju) := Rd.nx (by repeat (first | with_reducible exact Sv1 | with_reducible apply Rd.al | with_reducible apply Rd.dr | with_reducible apply Rd.dr1)) hb
  replace K : Kp w u11 := Kp.nx (by repeat (first | with_reducible exact K | with_reducible apply Kp.al | with_reducible apply Kp.dr | with_reducible apply Kp.dr1)) hb
  have Sv2 : Rd u11 pv2 qv2 (ju) := ho.rd
  clear ho hb
  go_wp2_with fail
  refine (QL.same_yes (xs := jq) (ys := jq) (by repeat (first | with_reducible exact Sq1 | with_reducible apply Rd.al | with_reducible apply Rd.dr | with_reducible apply Rd.dr1)) (by repeat (first | with_reducible exact Sq2 | with_reducible apply Rd.al | with_reducible apply Rd.dr | with_reducible apply Rd.dr1)) rfl rfl (by omega) rfl).mono ?_; rintro e u12 ⟨rfl, hb⟩
  replace Sx : Rd u12 a0 cap0 (xs) := Rd.nx (by repeat (first | with_reducible exact Sx | with_reducible apply Rd.al | with_reducible apply Rd.dr | with_reducible apply Rd.dr1)) hb
  replace Sy : Rd u12 a1 cap1 (ys) := Rd.nx (by repeat (first | with_reducible exact Sy | with_reducible apply Rd.al | with_reducible apply Rd.dr | with_reducible apply Rd.dr1)) hb
  replace Sx1 : Rd u12 (some ⟨gx1, 0, none⟩) qx1 (xz) := Rd.nx (by repeat (first | with_reducible exact Sx1 | with_reducible apply Rd.al | with_reducible apply Rd.dr | with_reducible apply Rd.dr1)) hb
  replace Sy1 : Rd u12 (some ⟨gy1, 0, none⟩) qy1 (yz) := Rd.nx (by repeat (first | with_reducible exact Sy1 | with_reducible apply Rd.al | with_reducible apply Rd.dr | with_reducible apply Rd.dr1)) hb
  replace Sq1 : Rd u12 pq1 qq1 (jq) := Rd.nx (by repeat (first | with_reducible exact Sq1 | with_reducible apply Rd.al | with_reducible apply Rd.dr | with_reducible apply Rd.dr1)) hb
  replace Sr1 : Rd u12 pr1 qr1 (jr) := Rd.nx (by repeat (first | with_reducible exact Sr1 | with_reducible apply Rd.al | with_reducible apply Rd.dr | with_reducible apply Rd.dr1)) hb
  replace Sq2 : Rd u12 pq2 qq2 (jq) := Rd.nx (by repeat (first | with_reducible exact Sq2 | with_reducible apply Rd.al | with_reducible apply Rd.dr | with_reducible apply Rd.dr1)) hb
  replace Sr2 : Rd u12 pr2 qr2 (jr) := Rd.nx (by repeat (first | with_reducible exact Sr2 | with_reducible apply Rd.al | with_reducible apply Rd.dr | with_reducible apply Rd.dr1)) hb
  replace Sd1 : Rd u12 pd1 qd1 (jd) := Rd.nx (by repeat (first | with_reducible exact Sd1 | with_reducible apply Rd.al | with_reducible apply Rd.dr | with_reducible apply Rd.dr1)) hb
  replace Sd2 : Rd u12 pd2 qd2 (jd) := Rd.nx (by repeat (first | with_reducible exact Sd2 | with_reducible apply Rd.al | with_reducible apply Rd.dr | with_reducible apply Rd.dr1)) hb
  replace Sv1 : Rd u12 pv1 qv1 (ju) := Rd.nx (by repeat (first | with_reducible exact Sv1 | with_reducible apply Rd.al | with_reducible apply Rd.dr | with_reducible apply Rd.dr1)) hb
  replace Sv2 : Rd u12 pv2 qv2 (ju) := Rd.nx (by repeat (first | with_reducible exact Sv2 | with_reducible apply Rd.al | with_reducible apply Rd.dr | with_reducible apply Rd.dr1)) hb
  replace K : Kp w u12 := Kp.nx (by repeat (first | with_reducible exact K | with_reducible apply Kp.al | with_reducible apply Kp.dr | with_reducible apply Kp.dr1)) hb
  clear hb
  go_wp2_with fail
  refine (QL.same_yes (xs := jr) (ys := jr) (by repeat (first | with_reducible exact Sr1 | with_reducible apply Rd.al | with_reducible apply Rd.dr | with_reducible apply Rd.dr1)) (by repeat (first | with_reducible exact Sr2 | with_reducible apply Rd.al | with_reducible apply Rd.dr | with_reducible apply Rd.dr1)) rfl rfl (by omega) rfl).mono ?_; rintro e u13 ⟨rfl, hb⟩
  replace Sx : Rd u13 a0 cap0 (xs) := Rd.nx (by repeat (first | with_reducible exact Sx | with_reducible apply Rd.al | with_reducible apply Rd.dr | with_reducible apply Rd.dr1)) hb
  replace Sy : Rd u13 a1 cap1 (ys) := Rd.nx (by repeat (first | with_reducible exact Sy | with_reducible apply Rd.al | with_reducible apply Rd.dr | with_reducible apply Rd.dr1)) hb
  replace Sx1 : Rd u13 (some ⟨gx1, 0, none⟩) qx1 (xz) := Rd.nx (by repeat (first | with_reducible exact Sx1 | with_reducible apply Rd.al | with_reducible apply Rd.dr | with_reducible apply Rd.dr1)) hb
  replace Sy1 : Rd u13 (some ⟨gy1, 0, none⟩) qy1 (yz) := Rd.nx (by repeat (first | with_reducible exact Sy1 | with_reducible apply Rd.al | with_reducible apply Rd.dr | with_reducible apply Rd.dr1)) hb
  replace Sq1 : Rd u13 pq1 qq1 (jq) := Rd.nx (by repeat (first | with_reducible exact Sq1 | with_reducible apply Rd.al | with_reducible apply Rd.dr | with_reducible apply Rd.dr1)) hb
  replace Sr1 : Rd u13 pr1 qr1 (jr) := Rd.nx (by repeat (first | with_reducible exact Sr1 | with_reducible apply Rd.al | with_reducible apply Rd.dr | with_reducible apply Rd.dr1)) hb
  replace Sq2 : Rd u13 pq2 qq2 (jq) := Rd.nx (by repeat (first | with_reducible exact Sq2 | with_reducible apply Rd.al | with_reducible apply Rd.dr | with_reducible apply Rd.dr1)) hb
  replace Sr2 : Rd u13 pr2 qr2 (jr) := Rd.nx (by repeat (first | with_reducible exact Sr2 | with_reducible apply Rd.al | with_reducible apply Rd.dr | with_reducible apply Rd.dr1)) hb
  replace Sd1 : Rd u13 pd1 qd1 (jd) := Rd.nx (by repeat (first | with_reducible exact Sd1 | with_reducible apply Rd.al | with_reducible apply Rd.dr | with_reducible apply Rd.dr1)) hb
  replace Sd2 : Rd u13 pd2 qd2 (jd) := Rd.nx (by repeat (first | with_reducible exact Sd2 | with_reducible apply Rd.al | with_reducible apply Rd.dr | with_reducible apply Rd.dr1)) hb
  replace Sv1 : Rd u13 pv1 qv1 (ju) := Rd.nx (by repeat (first | with_reducible exact Sv1 | with_reducible apply Rd.al | with_reducible apply Rd.dr | with_reducible apply Rd.dr1)) hb
  replace Sv2 : Rd u13 pv2 qv2 (ju) := Rd.nx (by repeat (first | with_reducible exact Sv2 | with_reducible apply Rd.al | with_reducible apply Rd.dr | with_reducible apply Rd.dr1)) hb
  replace K : Kp w u13 := Kp.nx (by repeat (first | with_reducible exact K | with_reducible apply Kp.al | with_reducible apply Kp.dr | with_reducible apply Kp.dr1)) hb
  clear hb
  go_wp2_with fail
  refine (QL.same_yes (xs := jd) (ys := jd) (by repeat (first | with_reducible exact Sd1 | with_reducible apply Rd.al | with_reducible apply Rd.dr | with_reducible apply Rd.dr1)) (by repeat (first | with_reducible exact Sd2 | with_reducible apply Rd.al | with_reducible apply Rd.dr | with_reducible apply Rd.dr1)) rfl rfl (by omega) rfl).mono ?_; rintro e u14 ⟨rfl, hb⟩
  replace Sx : Rd u14 a0 cap0 (xs) := Rd.nx (by repeat (first | with_reducible exact Sx | with_reducible apply Rd.al | with_reducible apply Rd.dr | with_reducible apply Rd.dr1)) hb
  replace Sy : Rd u14 a1 cap1 (ys) := Rd.nx (by repeat (first | with_reducible exact Sy | with_reducible apply Rd.al | with_reducible apply Rd.dr | with_reducible apply Rd.dr1)) hb
  replace Sx1 : Rd u14 (some ⟨gx1, 0, none⟩) qx1 (xz) := Rd.nx (by repeat (first | with_reducible exact Sx1 | with_reducible apply Rd.al | with_reducible apply Rd.dr | with_reducible apply Rd.dr1)) hb
  replace Sy1 : Rd u14 (some ⟨gy1, 0, none⟩) qy1 (yz) := Rd.nx (by repeat (first | with_reducible exact Sy1 | with_reducible apply Rd.al | with_reducible apply Rd.dr | with_reducible apply Rd.dr1)) hb
  replace Sq1 : Rd u14 pq1 qq1 (jq) := Rd.nx (by repeat (first | with_reducible exact Sq1 | with_reducible apply Rd.al | with_reducible apply Rd.dr | with_reducible apply Rd.dr1)) hb
  replace Sr1 : Rd u14 pr1 qr1 (jr) := Rd.nx (by repeat (first | with_reducible exact Sr1 | with_reducible apply Rd.al | with_reducible apply Rd.dr | with_reducible apply Rd.dr1)) hb
  replace Sq2 : Rd u14 pq2 qq2 (jq) := Rd.nx (by repeat (first | with_reducible exact Sq2 | with_reducible apply Rd.al | with_reducible apply Rd.dr | with_reducible apply Rd.dr1)) hb
  replace Sr2 : Rd u14 pr2 qr2 (jr) := Rd.nx (by repeat (first | with_reducible exact Sr2 | with_reducible apply Rd.al | with_reducible apply Rd.dr | with_reducible apply Rd.dr1)) hb
  replace Sd1 : Rd u14 pd1 qd1 (jd) := Rd.nx (by repeat (first | with_reducible exact Sd1 | with_reducible apply Rd.al | with_reducible apply Rd.dr | with_reducible apply Rd.dr1)) hb
  replace Sd2 : Rd u14 pd2 qd2 (jd) := Rd.nx (by repeat (first | with_reducible exact Sd2 | with_reducible apply Rd.al | with_reducible apply Rd.dr | with_reducible apply Rd.dr1)) hb
  replace Sv1 : Rd u14 pv1 qv1 (ju) := Rd.nx (by repeat (first | with_reducible exact Sv1 | with_reducible apply Rd.al | with_reducible apply Rd.dr | with_reducible apply Rd.dr1)) hb
  replace Sv2 : Rd u14 pv2 qv2 (ju) := Rd.nx (by repeat (first | with_reducible exact Sv2 | with_reducible apply Rd.al | with_reducible apply Rd.dr | with_reducible apply Rd.dr1)) hb
  replace K : Kp w u14 := Kp.nx (by repeat (first | with_reducible exact K | with_reducible apply Kp.al | with_reducible apply Kp.dr | with_reducible apply Kp.dr1)) hb
  clear hb
  go_wp2_with fail
  refine (QL.same_yes (xs := ju) (ys := ju) (by repeat (first | with_reducible exact Sv1 | with_reducible apply Rd.al | with_reducible apply Rd.dr | with_reducible apply Rd.dr1)) (by repeat (first | with_reducible exact Sv2 | with_reducible apply Rd.al | with_reducible apply Rd.dr | with_reducible apply Rd.dr1)) rfl rfl (by omega) rfl).mono ?_; rintro e u15 ⟨rfl, hb⟩
  replace Sx : Rd u15 a0 cap0 (xs) := Rd.nx (by repeat (first | with_reducible exact Sx | with_reducible apply Rd.al | with_reducible apply Rd.dr | with_reducible apply Rd.dr1)) hb
  replace Sy : Rd u15 a1 cap1 (ys) := Rd.nx (by repeat (first | with_reducible exact Sy | with_reducible apply Rd.al | with_reducible apply Rd.dr | with_reducible apply Rd.dr1)) hb
  replace Sx1 : Rd u15 (some ⟨gx1, 0, none⟩) qx1 (xz) := Rd.nx (by repeat (first | with_reducible exact Sx1 | with_reducible apply Rd.al | with_reducible apply Rd.dr | with_reducible apply Rd.dr1)) hb
  replace Sy1 : Rd u15 (some ⟨gy1, 0, none⟩) qy1 (yz) := Rd.nx (by repeat (first | with_reducible exact Sy1 | with_reducible apply Rd.al | with_reducible apply Rd.dr | with_reducible apply Rd.dr1)) hb
  replace Sq1 : Rd u15 pq1 qq1 (jq) := Rd.nx (by repeat (first | with_reducible exact Sq1 | with_reducible apply Rd.al | with_reducible apply Rd.dr | with_reducible apply Rd.dr1)) hb
  replace Sr1 : Rd u15 pr1 qr1 (jr) := Rd.nx (by repeat (first | with_reducible exact Sr1 | with_reducible apply Rd.al | with_reducible apply Rd.dr | with_reducible apply Rd.dr1)) hb
  replace Sq2 : Rd u15 pq2 qq2 (jq) := Rd.nx (by repeat (first | with_reducible exact Sq2 | with_reducible apply Rd.al | with_reducible apply Rd.dr | with_reducible apply Rd.dr1)) hb
  replace Sr2 : Rd u15 pr2 qr2 (jr) := Rd.nx (by repeat (first | with_reducible exact Sr2 | with_reducible apply Rd.al | with_reducible apply Rd.dr | with_reducible apply Rd.dr1)) hb
  replace Sd1 : Rd u15 pd1 qd1 (jd) := Rd.nx (by repeat (first | with_reducible exact Sd1 | with_reducible apply Rd.al | with_reducible apply Rd.dr | with_reducible apply Rd.dr1)) hb
  replace Sd2 : Rd u15 pd2 qd2 (jd) := Rd.nx (by repeat (first | with_reducible exact Sd2 | with_reducible apply Rd.al | with_reducible apply Rd.dr | with_reducible apply Rd.dr1)) hb
  replace Sv1 : Rd u15 pv1 qv1 (ju) := Rd.nx (by repeat (first | with_reducible exact Sv1 | with_reducible apply Rd.al | with_reducible apply Rd.dr | with_reducible apply Rd.dr1)) hb
  replace Sv2 : Rd u15 pv2 qv2 (ju) := Rd.nx (by repeat (first | with_reducible exact Sv2 | with_reducible apply Rd.al | with_reducible apply Rd.dr | with_reducible apply Rd.dr1)) hb
  replace K : Kp w u15 := Kp.nx (by repeat (first | with_reducible exact K | with_reducible apply Kp.al | with_reducible apply Kp.dr | with_reducible apply Kp.dr1)) hb
  clear hb
  go_wp2_with fail
  refine (NR.trim (zs := jq) (xs := jq) (by repeat (first | with_reducible exact Sq1 | with_reducible apply Rd.al | with_reducible apply Rd.dr | with_reducible apply Rd.dr1)) rfl (by omega) IQ.out).mono ?_; rintro e u16 ⟨ptq1, qtq1, rfl, ho, hb⟩
  replace Sx : Rd u16 a0 cap0 (xs) := Rd.nx (by repeat (first | with_reducible exact Sx | with_reducible apply Rd.al | with_reducible apply Rd.dr | with_reducible apply Rd.dr1)) hb
  replace Sy : Rd u16 a1 cap1 (ys) := Rd.nx (by repeat (first | with_reducible exact Sy | with_reducible apply Rd.al | with_reducible apply Rd.dr | with_reducible apply Rd.dr1)) hb
  replace Sx1 : Rd u16 (some ⟨gx1, 0, none⟩) qx1 (xz) := Rd.nx (by repeat (first | with_reducible exact Sx1 | with_reducible apply Rd.al | with_reducible apply Rd.dr | with_reducible apply Rd.dr1)) hb
  replace Sy1 : Rd u16 (some ⟨gy1, 0, none⟩) qy1 (yz) := Rd.nx (by repeat (first | with_reducible exact Sy1 | with_reducible apply Rd.al | with_reducible apply Rd.dr | with_reducible apply Rd.dr1)) hb
  replace Sq1 : Rd u16 pq1 qq1 (jq) := Rd.nx (by repeat (first | with_reducible exact Sq1 | with_reducible apply Rd.al | with_reducible apply Rd.dr | with_reducible apply Rd.dr1)) hb
  replace Sr1 : Rd u16 pr1 qr1 (jr) := Rd.nx (by repeat (first | with_reducible exact Sr1 | with_reducible apply Rd.al | with_reducible apply Rd.dr | with_reducible apply Rd.dr1)) hb
  replace Sq2 : Rd u16 pq2 qq2 (jq) := Rd.nx (by repeat (first | with_reducible exact Sq2 | with_reducible apply Rd.al | with_reducible apply Rd.dr | with_reducible apply Rd.dr1)) hb
  replace Sr2 : Rd u16 pr2 qr2 (jr) := Rd.nx (by repeat (first | with_reducible exact Sr2 | with_reducible apply Rd.al | with_reducible apply Rd.dr | with_reducible apply Rd.dr1)) hb
  replace Sd1 : Rd u16 pd1 qd1 (jd) := Rd.nx (by repeat (first | with_reducible exact Sd1 | with_reducible apply Rd.al | with_reducible apply Rd.dr | with_reducible apply Rd.dr1)) hb
  replace Sd2 : Rd u16 pd2 qd2 (jd) := Rd.nx (by repeat (first | with_reducible exact Sd2 | with_reducible apply Rd.al | with_reducible apply Rd.dr | with_reducible apply Rd.dr1)) hb
  replace Sv1 : Rd u16 pv1 qv1 (ju) := Rd.nx (by repeat (first | with_reducible exact Sv1 | with_reducible apply Rd.al | with_reducible apply Rd.dr | with_reducible apply Rd.dr1)) hb
  replace Sv2 : Rd u16 pv2 qv2 (ju) := Rd.nx (by repeat (first | with_reducible exact Sv2 | with_reducible apply Rd.al | with_reducible apply Rd.dr | with_reducible apply Rd.dr1)) hb
  replace K : Kp w u16 := Kp.nx (by repeat (first | with_reducible exact K | with_reducible apply Kp.al | with_reducible apply Kp.dr | with_reducible apply Kp.dr1)) hb
  have Stq1 : Rd u16 ptq1 qtq1 (jq) := ho.rd
  clear ho hb
  go_wp2_with fail
  refine (QL.same_yes (xs := jq) (ys := jq) (by repeat (first | with_reducible exact Sq1 | with_reducible apply Rd.al | with_reducible apply Rd.dr | with_reducible apply Rd.dr1)) (by repeat (first | with_reducible exact Stq1 | with_reducible apply Rd.al | with_reducible apply Rd.dr | with_reducible apply Rd.dr1)) rfl rfl (by omega) rfl).mono ?_; rintro e u17 ⟨rfl, hb⟩
  replace Sx : Rd u17 a0 cap0 (xs) := Rd.nx (by repeat (first | with_reducible exact Sx | with_reducible apply Rd.al | with_reducible apply Rd.dr | with_reducible apply Rd.dr1)) hb
  replace Sy : Rd u17 a1 cap1 (ys) := Rd.nx (by repeat (first | with_reducible exact Sy | with_reducible apply Rd.al | with_reducible apply Rd.dr | with_reducible apply Rd.dr1)) hb
  replace Sx1 : Rd u17 (some ⟨gx1, 0, none⟩) qx1 (xz) := Rd.nx (by repeat (first | with_reducible exact Sx1 | with_reducible apply Rd.al | with_reducible apply Rd.dr | with_reducible apply Rd.dr1)) hb
  replace Sy1 : Rd u17 (some ⟨gy1, 0, none⟩) qy1 (yz) := Rd.nx (by repeat (first | with_reducible exact Sy1 | with_reducible apply Rd.al | with_reducible apply Rd.dr | with_reducible apply Rd.dr1)) hb
  replace Sq1 : Rd u17 pq1 qq1 (jq) := Rd.nx (by repeat (first | with_reducible exact Sq1 | with_reducible apply Rd.al | with_reducible apply Rd.dr | with_reducible apply Rd.dr1)) hb
  replace Sr1 : Rd u17 pr1 qr1 (jr) := Rd.nx (by repeat (first | with_reducible exact Sr1 | with_reducible apply Rd.al | with_reducible apply Rd.dr | with_reducible apply Rd.dr1)) hb
  replace Sq2 : Rd u17 pq2 qq2 (jq) := Rd.nx (by repeat (first | with_reducible exact Sq2 | with_reducible apply Rd.al | with_reducible apply Rd.dr | with_reducible apply Rd.dr1)) hb
  replace Sr2 : Rd u17 pr2 qr2 (jr) := Rd.nx (by repeat (first | with_reducible exact Sr2 | with_reducible apply Rd.al | with_reducible apply Rd.dr | with_reducible apply Rd.dr1)) hb
  replace Sd1 : Rd u17 pd1 qd1 (jd) := Rd.nx (by repeat (first | with_reducible exact Sd1 | with_reducible apply Rd.al | with_reducible apply Rd.dr | with_reducible apply Rd.dr1)) hb
  replace Sd2 : Rd u17 pd2 qd2 (jd) := Rd.nx (by repeat (first | with_reducible exact Sd2 | with_reducible apply Rd.al | with_reducible apply Rd.dr | with_reducible apply Rd.dr1)) hb
  replace Sv1 : Rd u17 pv1 qv1 (ju) := Rd.nx (by repeat (first | with_reducible exact Sv1 | with_reducible apply Rd.al | with_reducible apply Rd.dr | with_reducible apply Rd.dr1)) hb
  replace Sv2 : Rd u17 pv2 qv2 (ju) := Rd.nx (by repeat (first | with_reducible exact Sv2 | with_reducible apply Rd.al | with_reducible apply Rd.dr | with_reducible apply Rd.dr1)) hb
  replace Stq1 : Rd u17 ptq1 qtq1 (jq) := Rd.nx (by repeat (first | with_reducible exact Stq1 | with_reducible apply Rd.al | with_reducible apply Rd.dr | with_reducible apply Rd.dr1)) hb
  replace K : Kp w u17 := Kp.nx (by repeat (first | with_reducible exact K | with_reducible apply Kp.al | with_reducible apply Kp.dr | with_reducible apply Kp.dr1)) hb
  clear hb
  clear Stq1
  go_wp2_with fail
  refine (NR.trim (zs := jr) (xs := jr) (by repeat (first | with_reducible exact Sr1 | with_reducible apply Rd.al | with_reducible apply Rd.dr | with_reducible apply Rd.dr1)) rfl (by omega) IR.out).mono ?_; rintro e u18 ⟨ptr1, qtr1, rfl, ho, hb⟩
  replace Sx : Rd u18 a0 cap0 (xs) := Rd.nx (by repeat (first | with_reducible exact Sx | with_reducible apply Rd.al | with_reducible apply Rd.dr | with_reducible apply Rd.dr1)) hb
  replace Sy : Rd u18 a1 cap1 (ys) := Rd.nx (by repeat (first | with_reducible exact Sy | with_reducible apply Rd.al | with_reducible apply Rd.dr | with_reducible apply Rd.dr1)) hb
  replace Sx1 : Rd u18 (some ⟨gx1, 0, none⟩) qx1 (xz) := Rd.nx (by repeat (first | with_reducible exact Sx1 | with_reducible apply Rd.al | with_reducible apply Rd.dr | with_reducible apply Rd.dr1)) hb
  replace Sy1 : Rd u18 (some ⟨gy1, 0, none⟩) qy1 (yz) := Rd.nx (by repeat (first | with_reducible exact Sy1 | with_reducible apply Rd.al | with_reducible apply Rd.dr | with_reducible apply Rd.dr1)) hb
  replace Sq1 : Rd u18 pq1 qq1 (jq) := Rd.nx (by repeat (first | with_reducible exact Sq1 | with_reducible apply Rd.al | with_reducible apply Rd.dr | with_reducible apply Rd.dr1)) hb
  replace Sr1 : Rd u18 pr1 qr1 (jr) := Rd.nx (by repeat (first | with_reducible exact Sr1 | with_reducible apply Rd.al | with_reducible apply Rd.dr | with_reducible apply Rd.dr1)) hb
  replace Sq2 : Rd u18 pq2 qq2 (jq) := Rd.nx (by repeat (first | with_reducible exact Sq2 | with_reducible apply Rd.al | with_reducible apply Rd.dr | with_reducible apply Rd.dr1)) hb
  replace Sr2 : Rd u18 pr2 qr2 (jr) := Rd.nx (by repeat (first | with_reducible exact Sr2 | with_reducible apply Rd.al | with_reducible apply Rd.dr | with_reducible apply Rd.dr1)) hb
  replace Sd1 : Rd u18 pd1 qd1 (jd) := Rd.nx (by repeat (first | with_reducible exact Sd1 | with_reducible apply Rd.al | with_reducible apply Rd.dr | with_reducible apply Rd.dr1)) hb
  replace Sd2 : Rd u18 pd2 qd2 (jd) := Rd.nx (by repeat (first | with_reducible exact Sd2 | with_reducible apply Rd.al | with_reducible apply Rd.dr | with_reducible apply Rd.dr1)) hb
  replace Sv1 : Rd u18 pv1 qv1 (ju) := Rd.nx (by repeat (first | with_reducible exact Sv1 | with_reducible apply Rd.al | with_reducible apply Rd.dr | with_reducible apply Rd.dr1)) hb
  replace Sv2 : Rd u18 pv2 qv2 (ju) := Rd.nx (by repeat (first | with_reducible exact Sv2 | with_reducible apply Rd.al | with_reducible apply Rd.dr | with_reducible apply Rd.dr1)) hb
  replace K : Kp w u18 := Kp.nx (by repeat (first | with_reducible exact K | with_reducible apply Kp.al | with_reducible apply Kp.dr | with_reducible apply Kp.dr1)) hb
  have Str1 : Rd u18 ptr1 qtr1 (jr) := ho.rd
  clear ho hb
  go_wp2_with fail
  refine (QL.same_yes (xs := jr) (ys := jr) (by repeat (first | with_reducible exact Sr1 | with_reducible apply Rd.al | with_reducible apply Rd.dr | with_reducible apply Rd.dr1)) (by repeat (first | with_reducible exact Str1 | with_reducible apply Rd.al | with_reducible apply Rd.dr | with_reducible apply Rd.dr1)) rfl rfl (by omega) rfl).mono ?_; rintro e u19 ⟨rfl, hb⟩
  replace Sx : Rd u19 a0 cap0 (xs) := Rd.nx (by repeat (first | with_reducible exact Sx | with_reducible apply Rd.al | with_reducible apply Rd.dr | with_reducible apply Rd.dr1)) hb
  replace Sy : Rd u19 a1 cap1 (ys) := Rd.nx (by repeat (first | with_reducible exact Sy | with_reducible apply Rd.al | with_reducible apply Rd.dr | with_reducible apply Rd.dr1)) hb
  replace Sx1 : Rd u19 (some ⟨gx1, 0, none⟩) qx1 (xz) := Rd.nx (by repeat (first | with_reducible exact Sx1 | with_reducible apply Rd.al | with_reducible apply Rd.dr | with_reducible apply Rd.dr1)) hb
  replace Sy1 : Rd u19 (some ⟨gy1, 0, none⟩) qy1 (yz) := Rd.nx (by repeat (first | with_reducible exact Sy1 | with_reducible apply Rd.al | with_reducible apply Rd.dr | with_reducible apply Rd.dr1)) hb
  replace Sq1 : Rd u19 pq1 qq1 (jq) := Rd.nx (by repeat (first | with_reducible exact Sq1 | with_reducible apply Rd.al | with_reducible apply Rd.dr | with_reducible apply Rd.dr1)) hb
  replace Sr1 : Rd u19 pr1 qr1 (jr) := Rd.nx (by repeat (first | with_reducible exact Sr1 | with_reducible apply Rd.al | with_reducible apply Rd.dr | with_reducible apply Rd.dr1)) hb
  replace Sq2 : Rd u19 pq2 qq2 (jq) := Rd.nx (by repeat (first | with_reducible exact Sq2 | with_reducible apply Rd.al | with_reducible apply Rd.dr | with_reducible apply Rd.dr1)) hb
  replace Sr2 : Rd u19 pr2 qr2 (jr) := Rd.nx (by repeat (first | with_reducible exact Sr2 | with_reducible apply Rd.al | with_reducible apply Rd.dr | with_reducible apply Rd.dr1)) hb
  replace Sd1 : Rd u19 pd1 qd1 (jd) := Rd.nx (by repeat (first | with_reducible exact Sd1 | with_reducible apply Rd.al | with_reducible apply Rd.dr | with_reducible apply Rd.dr1)) hb
  replace Sd2 : Rd u19 pd2 qd2 (jd) := Rd.nx (by repeat (first | with_reducible exact Sd2 | with_reducible apply Rd.al | with_reducible apply Rd.dr | with_reducible apply Rd.dr1)) hb
  replace Sv1 : Rd u19 pv1 qv1 (ju) := Rd.nx (by repeat (first | with_reducible exact Sv1 | with_reducible apply Rd.al | with_reducible apply Rd.dr | with_reducible apply Rd.dr1)) hb
  replace Sv2 : Rd u19 pv2 qv2 (ju) := Rd.nx (by repeat (first | with_reducible exact Sv2 | with_reducible apply Rd.al | with_reducible apply Rd.dr | with_reducible apply Rd.dr1)) hb
  replace Str1 : Rd u19 ptr1 qtr1 (jr) := Rd.nx (by repeat (first | with_reducible exact Str1 | with_reducible apply Rd.al | with_reducible apply Rd.dr | with_reducible apply Rd.dr1)) hb
  replace K : Kp w u19 := Kp.nx (by repeat (first | with_reducible exact K | with_reducible apply Kp.al | with_reducible apply Kp.dr | with_reducible apply Kp.dr1)) hb
  clear hb
  clear Str1
  go_wp2_with fail
  refine (NR.trim (zs := jd) (xs := jd) (by repeat (first | with_reducible exact Sd1 | with_reducible apply Rd.al | with_reducible apply Rd.dr | with_reducible apply Rd.dr1)) rfl (by omega) ID.out).mono ?_; rintro e u20 ⟨ptd1, qtd1, rfl, ho, hb⟩
  replace Sx : Rd u20 a0 cap0 (xs) := Rd.nx (by repeat (first | with_reducible exact Sx | with_reducible apply Rd.al | with_reducible apply Rd.dr | with_reducible apply Rd.dr1)) hb
  replace Sy : Rd u20 a1 cap1 (ys) := Rd.nx (by repeat (first | with_reducible exact Sy | with_reducible apply Rd.al | with_reducible apply Rd.dr | with_reducible apply Rd.dr1)) hb
  replace Sx1 : Rd u20 (some ⟨gx1, 0, none⟩) qx1 (xz) := Rd.nx (by repeat (first | with_reducible exact Sx1 | with_reducible apply Rd.al | with_reducible apply Rd.dr | with_reducible apply Rd.dr1)) hb
  replace Sy1 : Rd u20 (some ⟨gy1, 0, none⟩) qy1 (yz) := Rd.nx (by repeat (first | with_reducible exact Sy1 | with_reducible apply Rd.al | with_reducible apply Rd.dr | with_reducible apply Rd.dr1)) hb
  replace Sq1 : Rd u20 pq1 qq1 (jq) := Rd.nx (by repeat (first | with_reducible exact Sq1 | with_reducible apply Rd.al | with_reducible apply Rd.dr | with_reducible apply Rd.dr1)) hb
  replace Sr1 : Rd u20 pr1 qr1 (jr) := Rd.nx (by repeat (first | with_reducible exact Sr1 | with_reducible apply Rd.al | with_reducible apply Rd.dr | with_reducible apply Rd.dr1)) hb
  replace Sq2 : Rd u20 pq2 qq2 (jq) := Rd.nx (by repeat (first | with_reducible exact Sq2 | with_reducible apply Rd.al | with_reducible apply Rd.dr | with_reducible apply Rd.dr1)) hb
  replace Sr2 : Rd u20 pr2 qr2 (jr) := Rd.nx (by repeat (first | with_reducible exact Sr2 | with_reducible apply Rd.al | with_reducible apply Rd.dr | with_reducible apply Rd.dr1)) hb
  replace Sd1 : Rd u20 pd1 qd1 (jd) := Rd.nx (by repeat (first | with_reducible exact Sd1 | with_reducible apply Rd.al | with_reducible apply Rd.dr | with_reducible apply Rd.dr1)) hb
  replace Sd2 : Rd u20 pd2 qd2 (jd) := Rd.nx (by repeat (first | with_reducible exact Sd2 | with_reducible apply Rd.al | with_reducible apply Rd.dr | with_reducible apply Rd.dr1)) hb
  replace Sv1 : Rd u20 pv1 qv1 (ju) := Rd.nx (by repeat (first | with_reducible exact Sv1 | with_reducible apply Rd.al | with_reducible apply Rd.dr | with_reducible apply Rd.dr1)) hb
  replace Sv2 : Rd u20 pv2 qv2 (ju) := Rd.nx (by repeat (first | with_reducible exact Sv2 | with_reducible apply Rd.al | with_reducible apply Rd.dr | with_reducible apply Rd.dr1)) hb
  replace K : Kp w u20 := Kp.nx (by repeat (first | with_reducible exact K | with_reducible apply Kp.al | with_reducible apply Kp.dr | with_reducible apply Kp.dr1)) hb
  have Std1 : Rd u20 ptd1 qtd1 (jd) := ho.rd
  clear ho hb
  go_wp2_with fail
  refine (QL.same_yes (xs := jd) (ys := jd) (by repeat (first | with_reducible exact Sd1 | with_reducible apply Rd.al | with_reducible apply Rd.dr | with_reducible apply Rd.dr1)) (by repeat (first | with_reducible exact Std1 | with_reducible apply Rd.al | with_reducible apply Rd.dr | with_reducible apply Rd.dr1)) rfl rfl (by omega) rfl).mono ?_; rintro e u21 ⟨rfl, hb⟩
  replace Sx : Rd u21 a0 cap0 (xs) := Rd.nx (by repeat (first | with_reducible exact Sx | with_reducible apply Rd.al | with_reducible apply Rd.dr | with_reducible apply Rd.dr1)) hb
  replace Sy : Rd u21 a1 cap1 (ys) := Rd.nx (by repeat (first | with_reducible exact Sy | with_reducible apply Rd.al | with_reducible apply Rd.dr | with_reducible apply Rd.dr1)) hb
  replace Sx1 : Rd u21 (some ⟨gx1, 0, none⟩) qx1 (xz) := Rd.nx (by repeat (first | with_reducible exact Sx1 | with_reducible apply Rd.al | with_reducible apply Rd.dr | with_reducible apply Rd.dr1)) hb
  replace Sy1 : Rd u21 (some ⟨gy1, 0, none⟩) qy1 (yz) := Rd.nx (by repeat (first | with_reducible exact Sy1 | with_reducible apply Rd.al | with_reducible apply Rd.dr | with_reducible apply Rd.dr1)) hb
  replace Sq1 : Rd u21 pq1 qq1 (jq) := Rd.nx (by repeat (first | with_reducible exact Sq1 | with_reducible apply Rd.al | with_reducible apply Rd.dr | with_reducible apply Rd.dr1)) hb
  replace Sr1 : Rd u21 pr1 qr1 (jr) := Rd.nx (by repeat (first | with_reducible exact Sr1 | with_reducible apply Rd.al | with_reducible apply Rd.dr | with_reducible apply Rd.dr1)) hb
  replace Sq2 : Rd u21 pq2 qq2 (jq) := Rd.nx (by repeat (first | with_reducible exact Sq2 | with_reducible apply Rd.al | with_reducible apply Rd.dr | with_reducible apply Rd.dr1)) hb
  replace Sr2 : Rd u21 pr2 qr2 (jr) := Rd.nx (by repeat (first | with_reducible exact Sr2 | with_reducible apply Rd.al | with_reducible apply Rd.dr | with_reducible apply Rd.dr1)) hb
  replace Sd1 : Rd u21 pd1 qd1 (jd) := Rd.nx (by repeat (first | with_reducible exact Sd1 | with_reducible apply Rd.al | with_reducible apply Rd.dr | with_reducible apply Rd.dr1)) hb
  replace Sd2 : Rd u21 pd2 qd2 (jd) := Rd.nx (by repeat (first | with_reducible exact Sd2 | with_reducible apply Rd.al | with_reducible apply Rd.dr | with_reducible apply Rd.dr1)) hb
  replace Sv1 : Rd u21 pv1 qv1 (ju) := Rd.nx (by repeat (first | with_reducible exact Sv1 | with_reducible apply Rd.al | with_reducible apply Rd.dr | with_reducible apply Rd.dr1)) hb
  replace Sv2 : Rd u21 pv2 qv2 (ju) := Rd.nx (by repeat (first | with_reducible exact Sv2 | with_reducible apply Rd.al | with_reducible apply Rd.dr | with_reducible apply Rd.dr1)) hb
  replace Std1 : Rd u21 ptd1 qtd1 (jd) := Rd.nx (by repeat (first | with_reducible exact Std1 | with_reducible apply Rd.al | with_reducible apply Rd.dr | with_reducible apply Rd.dr1)) hb
  replace K : Kp w u21 := Kp.nx (by repeat (first | with_reducible exact K | with_reducible apply Kp.al | with_reducible apply Kp.dr | with_reducible apply Kp.dr1)) hb
  clear hb
  clear Std1
  go_wp2_with fail
  refine (NR.trim (zs := ju) (xs := ju) (by repeat (first | with_reducible exact Sv1 | with_reducible apply Rd.al | with_reducible apply Rd.dr | with_reducible apply Rd.dr1)) rfl (by omega) IU.out).mono ?_; rintro e u22 ⟨ptv1, qtv1, rfl, ho, hb⟩
  replace Sx : Rd u22 a0 cap0 (xs) := Rd.nx (by repeat (first | with_reducible exact Sx | with_reducible apply Rd.al | with_reducible apply Rd.dr | with_reducible apply Rd.dr1)) hb
  replace Sy : Rd u22 a1 cap1 (ys) := Rd.nx (by repeat (first | with_reducible exact Sy | with_reducible apply Rd.al | with_reducible apply Rd.dr | with_reducible apply Rd.dr1)) hb
  replace Sx1 : Rd u22 (some ⟨gx1, 0, none⟩) qx1 (xz) := Rd.nx (by repeat (first | with_reducible exact Sx1 | with_reducible apply Rd.al | with_reducible apply Rd.dr | with_reducible apply Rd.dr1)) hb
  replace Sy1 : Rd u22 (some ⟨gy1, 0, none⟩) qy1 (yz) := Rd.nx (by repeat (first | with_reducible exact Sy1 | with_reducible apply Rd.al | with_reducible apply Rd.dr | with_reducible apply Rd.dr1)) hb
  replace Sq1 : Rd u22 pq1 qq1 (jq) := Rd.nx (by repeat (first | with_reducible exact Sq1 | with_reducible apply Rd.al | with_reducible apply Rd.dr | with_reducible apply Rd.dr1)) hb
  replace Sr1 : Rd u22 pr1 qr1 (jr) := Rd.nx (by repeat (first | with_reducible exact Sr1 | with_reducible apply Rd.al | with_reducible apply Rd.dr | with_reducible apply Rd.dr1)) hb
  replace Sq2 : Rd u22 pq2 qq2 (jq) := Rd.nx (by repeat (first | with_reducible exact Sq2 | with_reducible apply Rd.al | with_reducible apply Rd.dr | with_reducible apply Rd.dr1)) hb
  replace Sr2 : Rd u22 pr2 qr2 (jr) := Rd.nx (by repeat (first | with_reducible exact Sr2 | with_reducible apply Rd.al | with_reducible apply Rd.dr | with_reducible apply Rd.dr1)) hb
  replace Sd1 : Rd u22 pd1 qd1 (jd) := Rd.nx (by repeat (first | with_reducible exact Sd1 | with_reducible apply Rd.al | with_reducible apply Rd.dr | with_reducible apply Rd.dr1)) hb
  replace Sd2 : Rd u22 pd2 qd2 (jd) := Rd.nx (by repeat (first | with_reducible exact Sd2 | with_reducible apply Rd.al | with_reducible apply Rd.dr | with_reducible apply Rd.dr1)) hb
  replace Sv1 : Rd u22 pv1 qv1 (ju) := Rd.nx (by repeat (first | with_reducible exact Sv1 | with_reducible apply Rd.al | with_reducible apply Rd.dr | with_reducible apply Rd.dr1)) hb
  replace Sv2 : Rd u22 pv2 qv2 (ju) := Rd.nx (by repeat (first | with_reducible exact Sv2 | with_reducible apply Rd.al | with_reducible apply Rd.dr | with_reducible apply Rd.dr1)) hb
  replace K : Kp w u22 := Kp.nx (by repeat (first | with_reducible exact K | with_reducible apply Kp.al | with_reducible apply Kp.dr | with_reducible apply Kp.dr1)) hb
  have Stv1 : Rd u22 ptv1 qtv1 (ju) := ho.rd
  clear ho hb
  go_wp2_with fail
  refine (QL.same_yes (xs := ju) (ys := ju) (by repeat (first | with_reducible exact Sv1 | with_reducible apply Rd.al | with_reducible apply Rd.dr | with_reducible apply Rd.dr1)) (by repeat (first | with_reducible exact Stv1 | with_reducible apply Rd.al | with_reducible apply Rd.dr | with_reducible apply Rd.dr1)) rfl rfl (by omega) rfl).mono ?_; rintro e u23 ⟨rfl, hb⟩
  replace Sx : Rd u23 a0 cap0 (xs) := Rd.nx (by repeat (first | with_reducible exact Sx | with_reducible apply Rd.al | with_reducible apply Rd.dr | with_reducible apply Rd.dr1)) hb
  replace Sy : Rd u23 a1 cap1 (ys) := Rd.nx (by repeat (first | with_reducible exact Sy | with_reducible apply Rd.al | with_reducible apply Rd.dr | with_reducible apply Rd.dr1)) hb
  replace Sx1 : Rd u23 (some ⟨gx1, 0, none⟩) qx1 (xz) := Rd.nx (by repeat (first | with_reducible exact Sx1 | with_reducible apply Rd.al | with_reducible apply Rd.dr | with_reducible apply Rd.dr1)) hb
  replace Sy1 : Rd u23 (some ⟨gy1, 0, none⟩) qy1 (yz) := Rd.nx (by repeat (first | with_reducible exact Sy1 | with_reducible apply Rd.al | with_reducible apply Rd.dr | with_reducible apply Rd.dr1)) hb
  replace Sq1 : Rd u23 pq1 qq1 (jq) := Rd.nx (by repeat (first | with_reducible exact Sq1 | with_reducible apply Rd.al | with_reducible apply Rd.dr | with_reducible apply Rd.dr1)) hb
  replace Sr1 : Rd u23 pr1 qr1 (jr) := Rd.nx (by repeat (first | with_reducible exact Sr1 | with_reducible apply Rd.al | with_reducible apply Rd.dr | with_reducible apply Rd.dr1)) hb
  replace Sq2 : Rd u23 pq2 qq2 (jq) := Rd.nx (by repeat (first | with_reducible exact Sq2 | with_reducible apply Rd.al | with_reducible apply Rd.dr | with_reducible apply Rd.dr1)) hb
  replace Sr2 : Rd u23 pr2 qr2 (jr) := Rd.nx (by repeat (first | with_reducible exact Sr2 | with_reducible apply Rd.al | with_reducible apply Rd.dr | with_reducible apply Rd.dr1)) hb
  replace Sd1 : Rd u23 pd1 qd1 (jd) := Rd.nx (by repeat (first | with_reducible exact Sd1 | with_reducible apply Rd.al | with_reducible apply Rd.dr | with_reducible apply Rd.dr1)) hb
  replace Sd2 : Rd u23 pd2 qd2 (jd) := Rd.nx (by repeat (first | with_reducible exact Sd2 | with_reducible apply Rd.al | with_reducible apply Rd.dr | with_reducible apply Rd.dr1)) hb
  replace Sv1 : Rd u23 pv1 qv1 (ju) := Rd.nx (by repeat (first | with_reducible exact Sv1 | with_reducible apply Rd.al | with_reducible apply Rd.dr | with_reducible apply Rd.dr1)) hb
  replace Sv2 : Rd u23 pv2 qv2 (ju) := Rd.nx (by repeat (first | with_reducible exact Sv2 | with_reducible apply Rd.al | with_reducible apply Rd.dr | with_reducible apply Rd.dr1)) hb
  replace Stv1 : Rd u23 ptv1 qtv1 (ju) := Rd.nx (by repeat (first | with_reducible exact Stv1 | with_reducible apply Rd.al | with_reducible apply Rd.dr | with_reducible apply Rd.dr1)) hb
  replace K : Kp w u23 := Kp.nx (by repeat (first | with_reducible exact K | with_reducible apply Kp.al | with_reducible apply Kp.dr | with_reducible apply Kp.dr1)) hb
  clear hb
  clear Stv1
  go_wp2_with fail
  go_ret
  exact ⟨rfl, Kp.below (by repeat (first | with_reducible exact K | with_reducible apply Kp.al | with_reducible apply Kp.dr | with_reducible apply Kp.dr1))⟩

/-! ### THE ROW's STEP: WRITTEN OUT: LEAVE IT -/
set_option maxRecDepth 100000 in
theorem lifted (os : Os) (started : os.Started) (H : Type) (enc : TypeId × Value → H) :
    ReturnsInHanded {} Try.checked os 7 .any (Rows.quoTailsSpec.pre6 enc Try.prog Try.f7 Rows.quoTailsRow.domain false) (Rows.quoTailsSpec.post enc Try.prog Try.f7 false true false false) := by
  refine returnsInHanded_of_change (C := Try.checked) own started (by kernel_rfl) Try.func7
    (ChangeSpec.witness6 (enc := enc) (C := Try.checked) false ⟨#[], #[.slice none 0 0, .slice none 0 0, .int .u8 0, .int .u8 0, .int .u8 0], []⟩ 8 (by kernel_rfl) (by kernel_rfl) (by kernel_rfl) (by kernel_rfl)) ?_
  intro W base args ds gs before hval0 hW hcnd _
  have hval : ∀ (j : Nat) t v, Try.f7.params[j]? = some t → args[j]? = some v → Value.okWide Try.prog W .any base t v := hval0
  have hW' := hW
  obtain ⟨p, q, hA0, hV, rfl, hfz, hnd⟩ := hW
  have hA : DataW.TrodAll enc Try.prog W 0 (fun _ => true) true Try.f7.params.toList args.toList ds p := hA0
  rw [Try.params7] at hA hval
  obtain ⟨v0, vs0, d0, ds0, p0, q0, hargs, rfl, rfl, h0, r0⟩ := trodAll_cons hA
  obtain ⟨v1, vs1, d1, ds1, p1, q1, rfl, rfl, rfl, h1, r1⟩ := trodAll_cons r0
  obtain ⟨v2, vs2, d2, ds2, p2, q2, rfl, rfl, rfl, h2, r2⟩ := trodAll_cons r1
  obtain ⟨v3, vs3, d3, ds3, p3, q3, rfl, rfl, rfl, h3, r3⟩ := trodAll_cons r2
  obtain ⟨v4, vs4, d4, ds4, p4, q4, rfl, rfl, rfl, h4, r4⟩ := trodAll_cons r3
  obtain ⟨rfl, rfl, rfl⟩ := trodAll_nil r4
  obtain rfl : args = #[v0, v1, v2, v3, v4] := by cases args; simp_all
  obtain ⟨rfl, rfl⟩ := trodVars_none hV
  obtain ⟨a0, len0, cap0, rfl⟩ := okWide_slice Try.underlying23 (hval 0 23 v0 rfl rfl)
  have k0 := h0
  have lt0 : ∀ x ∈ p0, x.block < W.heap.size := by obtain ⟨m, hm⟩ := k0; exact DataW.trod_lt m _ _ _ hm
  obtain ⟨z0, w0⟩ : ∃ zs, IsRow .u64 W a0 len0 cap0 zs := by
    obtain ⟨fuel, hf⟩ := h0
    rcases open_ints Try.underlying23 Try.underlying36 (by kernel_rfl) hf with ⟨hcs, _⟩ | ⟨x, l, c, zs, hcs, _, hl, hm, hz, _, hcell, hwz⟩
    · simp [Value.cells] at hcs
      obtain ⟨rfl, rfl, rfl⟩ := hcs
      exact ⟨[], .inl ⟨rfl, rfl, rfl, rfl⟩⟩
    · simp [Value.cells] at hcs
      obtain ⟨rfl, rfl, rfl⟩ := hcs
      exact ⟨zs, .inr ⟨_, rfl, hl, hm, by simpa using hz, hcell, hwz⟩⟩
  obtain ⟨a1, len1, cap1, rfl⟩ := okWide_slice Try.underlying23 (hval 1 23 v1 rfl rfl)
  have k1 := h1
  have lt1 : ∀ x ∈ p1, x.block < W.heap.size := by obtain ⟨m, hm⟩ := k1; exact DataW.trod_lt m _ _ _ hm
  obtain ⟨z1, w1⟩ : ∃ zs, IsRow .u64 W a1 len1 cap1 zs := by
    obtain ⟨fuel, hf⟩ := h1
    rcases open_ints Try.underlying23 Try.underlying36 (by kernel_rfl) hf with ⟨hcs, _⟩ | ⟨x, l, c, zs, hcs, _, hl, hm, hz, _, hcell, hwz⟩
    · simp [Value.cells] at hcs
      obtain ⟨rfl, rfl, rfl⟩ := hcs
      exact ⟨[], .inl ⟨rfl, rfl, rfl, rfl⟩⟩
    · simp [Value.cells] at hcs
      obtain ⟨rfl, rfl, rfl⟩ := hcs
      exact ⟨zs, .inr ⟨_, rfl, hl, hm, by simpa using hz, hcell, hwz⟩⟩
  obtain ⟨a2, rfl, rfl, rfl, w2⟩ := open_int Try.underlying5 (hval 2 5 v2 rfl rfl) h2
  obtain ⟨a3, rfl, rfl, rfl, w3⟩ := open_int Try.underlying5 (hval 3 5 v3 rfl rfl) h3
  obtain ⟨a4, rfl, rfl, rfl, w4⟩ := open_int Try.underlying5 (hval 4 5 v4 rfl rfl) h4
  clear hA0 hval0
  refine (walk a0 len0 cap0 z0 a1 len1 cap1 z1 a2 a3 a4 W w0 w1 w2 w3 w4).mono fun e W' ⟨he, bel⟩ => ?_
  subst he
  exact ⟨_, rfl, _, _, _, [], _, [], hW', trodAll_mk1 (shut_bool Try.underlying4 _), (trodAll_cons_mk (Below.trod laidOut (by kernel_rfl) (of_decide_eq_true (by kernel_rfl)) k0 bel lt0) (trodAll_cons_mk (Below.trod laidOut (by kernel_rfl) (of_decide_eq_true (by kernel_rfl)) k1 bel lt1) (trodAll_cons_mk (shut_int Try.underlying5 w2) (trodAll_cons_mk (shut_int Try.underlying5 w3) (trodAll_cons_mk (shut_int Try.underlying5 w4) trodAll_mk0))))), rfl, bel.frame _, fun h => by cases h⟩

theorem over : Rows.quoTailsRow.holds Try.pinned (OpenSpec.ofChange Rows.quoTailsSpec) :=
  OpenClaim.holds_of_wide 7 Try.f7 rfl rfl rfl rfl rfl rfl rfl ⟨rfl, rfl, rfl, rfl, rfl⟩ rfl rfl rfl rfl rfl (by kernel_rfl) Try.func7 (by kernel_rfl)
    (of_decide_eq_true (by kernel_rfl)) (by unfold Func.isWrapper; first | (rw [if_pos (by decide +kernel)]; kernel_rfl) | (rw [if_neg (by decide +kernel)]; exact ⟨rfl, rfl⟩))
    (fun os started H enc _ => lifted os started H enc)

/-- ████ THE STATEMENT ████ -/
theorem proved : Rows.QuoTailsSaid := over
#print axioms proved
end Go.Proofs.Ytepndjcncmkkkaa.quoTails
