/- The statement QuoMultiples: with c times b more the quotient is c more, and as much is left; divided by b, and then by c, it is divided by b times c. No condition. -/
import Derived.Test.YtepndjcncmkkkaaRows
import Derived.WalkKit
import Derived.ProofKit
import Derived.OpenShut
import Derived.Test.YtepndjcncmkkkaaQuoAwake
import Derived.ShutString
import Derived.ChangeOld
import Derived.Below
namespace Go.Proofs.Ytepndjcncmkkkaa.quoMultiples
open Go.ChangeShapes Go.WideShapes Go.ChangeAt Go.RowKit
open Go.Proofs
open Go.ChangeMaps (open_string shut_string)
set_option linter.unusedVariables false

theorem own : ownKnob Try.prog.godebug = none := by kernel_rfl
theorem laidOut : laidOutB Try.prog = true := by kernel_rfl

/-- WHAT THE WALK IS TOLD OF A SLICE OF INTEGERS THAT CAME IN: it is nil; or it leads to a row of 'cap' cells, the numbers 'zs' (the first 'len' are its elements, the rest its spare room), each fitting its kind. -/
def IsRow (k : IntKind) (w : World) (a : Option Addr) (len cap : Nat) (zs : List Int) : Prop :=
  (a = none ∧ len = 0 ∧ cap = 0 ∧ zs = []) ∨
  ∃ x, a = some x ∧ len ≤ cap ∧ cap ≤ maxLen ∧ zs.length = cap ∧ (∀ i, i < zs.length → w.cell? (x.add i) = some (.int k (zs.getD i 0))) ∧ ∀ n ∈ zs, (Lit.int k n).wf = true

open Go.Proofs.NP Go.Proofs.SL Go.Proofs.NR Go.Lib
set_option linter.unusedSimpArgs false
theorem mq (x y z : Nat) (hy : y ≠ 0) : (x + z * y) / y = x / y + z := Nat.add_mul_div_right _ _ (Nat.pos_of_ne_zero hy)
theorem mr (x y z : Nat) : (x + z * y) % y = x % y := Nat.add_mul_mod_self_right _ _ _
theorem mm (x y z : Nat) : x / y / z = x / (y * z) := Nat.div_div_eq_div_mul _ _ _
theorem mz (y z : Nat) (hy : y ≠ 0) (hz : z ≠ 0) : y * z ≠ 0 := Nat.mul_ne_zero hy hz

/-! ### STEP 1: THE WALK: the Go text returns true, AND WRITES NOTHING THAT WAS THERE: 'Below w.heap.size w w'' (Derived/Below.lean: '.refl', '.alloc', '.drew', '.setCell' at a new block, '.trans'). Open each 'IsRow' by 'rcases' AHEAD of 'go_enter'; part every test ahead of the walk. -/
set_option maxHeartbeats 4000000 in
set_option maxRecDepth 100000 in
theorem walk (a0 : Option Addr) (len0 cap0 : Nat) (z0 : List Int) (a1 : Option Addr) (len1 cap1 : Nat) (z1 : List Int) (a2 : Option Addr) (len2 cap2 : Nat) (z2 : List Int) (w : World) (w0 : IsRow .u64 w a0 len0 cap0 z0) (w1 : IsRow .u64 w a1 len1 cap1 z1) (w2 : IsRow .u64 w a2 len2 cap2 z2) :
    Calls Try.prog 10 #[.slice a0 len0 cap0, .slice a1 len1 cap1, .slice a2 len2 cap2] w fun e w' => e = .returned (.bool true) ∧ Below w.heap.size w w' := by
  obtain ⟨xs, rfl, Sx⟩ := QL.rows w0
  obtain ⟨ys, rfl, Sy⟩ := QL.rows w1
  obtain ⟨zs, rfl, Sz⟩ := QL.rows w2
  have K : Kp w w := Kp.refl w
  clear w0 w1 w2
  by_cases hs : ¬ (xs.length ≤ 12 ∧ ys.length ≤ 12 ∧ zs.length ≤ 12)
  · have hz : true = (decide (12 < xs.length) || (decide (12 < ys.length) || decide (12 < zs.length))) := by simp; omega
    clear hs
    have HZ := Lib.hid hz; clear hz
    go_enter Try.func10, Try.ntmps10
    go_wp2_with fail
    refine (QL.long3 (by simp) true HZ).mono ?_; rintro e w' ⟨rfl, rfl⟩
    go_wp2_with fail
    refine (QL.awake _).mono ?_; rintro e u1 ⟨rfl, hb⟩
    replace Sx : Rd u1 a0 cap0 (xs) := Rd.nx (by repeat (first | with_reducible exact Sx | with_reducible apply Rd.al | with_reducible apply Rd.dr | with_reducible apply Rd.dr1)) hb
    replace Sy : Rd u1 a1 cap1 (ys) := Rd.nx (by repeat (first | with_reducible exact Sy | with_reducible apply Rd.al | with_reducible apply Rd.dr | with_reducible apply Rd.dr1)) hb
    replace Sz : Rd u1 a2 cap2 (zs) := Rd.nx (by repeat (first | with_reducible exact Sz | with_reducible apply Rd.al | with_reducible apply Rd.dr | with_reducible apply Rd.dr1)) hb
    replace K : Kp w u1 := Kp.nx (by repeat (first | with_reducible exact K | with_reducible apply Kp.al | with_reducible apply Kp.dr | with_reducible apply Kp.dr1)) hb
    clear hb
    go_wp2_with fail
    go_ret
    exact ⟨rfl, Kp.below (by repeat (first | with_reducible exact K | with_reducible apply Kp.al | with_reducible apply Kp.dr | with_reducible apply Kp.dr1))⟩
  obtain ⟨n0, n1, n2⟩ : xs.length ≤ 12 ∧ ys.length ≤ 12 ∧ zs.length ≤ 12 := by omega
  clear hs
  have fx : Fits (V xs) 12 := Fits.of Sx.ws (by omega)
  have fy : Fits (V ys) 12 := Fits.of Sy.ws (by omega)
  have fz : Fits (V zs) 12 := Fits.of Sz.ws (by omega)
  have hz : false = (decide (12 < xs.length) || (decide (12 < ys.length) || decide (12 < zs.length))) := by simp; omega
  have HZ := Lib.hid hz; clear hz
  by_cases hy : V ys = 0
  · have HY := Lib.hid hy; clear hy
    go_enter Try.func10, Try.ntmps10
    go_wp2_with fail
    refine (QL.long3 (by simp) false HZ).mono ?_; rintro e w' ⟨rfl, rfl⟩
    go_wp2_with fail
    refine (NR.zero (xs := ys) (by repeat (first | with_reducible exact Sy | with_reducible apply Rd.al | with_reducible apply Rd.dr | with_reducible apply Rd.dr1)) rfl (by omega) true (by rw [HY.out]; rfl)).mono ?_; rintro e w' ⟨rfl, rfl⟩
    go_wp2_with fail
    refine (QL.awake _).mono ?_; rintro e u1 ⟨rfl, hb⟩
    replace Sx : Rd u1 a0 cap0 (xs) := Rd.nx (by repeat (first | with_reducible exact Sx | with_reducible apply Rd.al | with_reducible apply Rd.dr | with_reducible apply Rd.dr1)) hb
    replace Sy : Rd u1 a1 cap1 (ys) := Rd.nx (by repeat (first | with_reducible exact Sy | with_reducible apply Rd.al | with_reducible apply Rd.dr | with_reducible apply Rd.dr1)) hb
    replace Sz : Rd u1 a2 cap2 (zs) := Rd.nx (by repeat (first | with_reducible exact Sz | with_reducible apply Rd.al | with_reducible apply Rd.dr | with_reducible apply Rd.dr1)) hb
    replace K : Kp w u1 := Kp.nx (by repeat (first | with_reducible exact K | with_reducible apply Kp.al | with_reducible apply Kp.dr | with_reducible apply Kp.dr1)) hb
    clear hb
    go_wp2_with fail
    go_ret
    exact ⟨rfl, Kp.below (by repeat (first | with_reducible exact K | with_reducible apply Kp.al | with_reducible apply Kp.dr | with_reducible apply Kp.dr1))⟩
  · by_cases hw : V zs = 0
    · have HY := Lib.hid hy; clear hy
      have HW := Lib.hid hw; clear hw
      go_enter Try.func10, Try.ntmps10
      go_wp2_with fail
      refine (QL.long3 (by simp) false HZ).mono ?_; rintro e w' ⟨rfl, rfl⟩
      go_wp2_with fail
      refine (NR.zero (xs := ys) (by repeat (first | with_reducible exact Sy | with_reducible apply Rd.al | with_reducible apply Rd.dr | with_reducible apply Rd.dr1)) rfl (by omega) false (by have := HY.out; symm; rw [beq_eq_false_iff_ne]; exact this)).mono ?_; rintro e w' ⟨rfl, rfl⟩
      go_wp2_with fail
      refine (QL.awake _).mono ?_; rintro e u1 ⟨rfl, hb⟩
      replace Sx : Rd u1 a0 cap0 (xs) := Rd.nx (by repeat (first | with_reducible exact Sx | with_reducible apply Rd.al | with_reducible apply Rd.dr | with_reducible apply Rd.dr1)) hb
      replace Sy : Rd u1 a1 cap1 (ys) := Rd.nx (by repeat (first | with_reducible exact Sy | with_reducible apply Rd.al | with_reducible apply Rd.dr | with_reducible apply Rd.dr1)) hb
      replace Sz : Rd u1 a2 cap2 (zs) := Rd.nx (by repeat (first | with_reducible exact Sz | with_reducible apply Rd.al | with_reducible apply Rd.dr | with_reducible apply Rd.dr1)) hb
      replace K : Kp w u1 := Kp.nx (by repeat (first | with_reducible exact K | with_reducible apply Kp.al | with_reducible apply Kp.dr | with_reducible apply Kp.dr1)) hb
      clear hb
      obtain ⟨jq, hjq⟩ : ∃ z : List Nat, z = L ((V xs) / (V ys)) := ⟨_, rfl⟩
      have Nq : Hid (V jq = (V xs) / (V ys)) := Lib.hid (by rw [hjq, V_L])
      have ljq : jq.length ≤ 9000 := Nat.le_trans (NR.len_of hjq (fx.div _)) (by first | decide | omega)
      have Hq := Lib.hid hjq; clear hjq
      obtain ⟨jr, hjr⟩ : ∃ z : List Nat, z = L ((V xs) % (V ys)) := ⟨_, rfl⟩
      have Nr : Hid (V jr = (V xs) % (V ys)) := Lib.hid (by rw [hjr, V_L])
      have ljr : jr.length ≤ 9000 := Nat.le_trans (NR.len_of hjr (fx.mono (Nat.mod_le _ _))) (by first | decide | omega)
      have Hr := Lib.hid hjr; clear hjr
      go_wp2_with fail
      refine (QR.div1 (xs := xs) (ys := ys) (by repeat (first | with_reducible exact Sx | with_reducible apply Rd.al | with_reducible apply Rd.dr | with_reducible apply Rd.dr1)) (by repeat (first | with_reducible exact Sy | with_reducible apply Rd.al | with_reducible apply Rd.dr | with_reducible apply Rd.dr1)) rfl rfl (by omega) (by omega) jq jr 0 (Hq.out.trans (congrArg L (by first | with_reducible rfl | simp only [LN.V_nil, LN.V_one]))) (QL.drL_of HY.out (Hr.out.trans (congrArg L (by first | with_reducible rfl | simp only [LN.V_nil, LN.V_one])))) (QL.dE_of HY.out)).mono ?_; rintro e u2 ⟨pq, qq, pr, qr, rfl, ho, ho2, _, hb⟩
      replace Sx : Rd u2 a0 cap0 (xs) := Rd.nx (by repeat (first | with_reducible exact Sx | with_reducible apply Rd.al | with_reducible apply Rd.dr | with_reducible apply Rd.dr1)) hb
      replace Sy : Rd u2 a1 cap1 (ys) := Rd.nx (by repeat (first | with_reducible exact Sy | with_reducible apply Rd.al | with_reducible apply Rd.dr | with_reducible apply Rd.dr1)) hb
      replace Sz : Rd u2 a2 cap2 (zs) := Rd.nx (by repeat (first | with_reducible exact Sz | with_reducible apply Rd.al | with_reducible apply Rd.dr | with_reducible apply Rd.dr1)) hb
      replace K : Kp w u2 := Kp.nx (by repeat (first | with_reducible exact K | with_reducible apply Kp.al | with_reducible apply Kp.dr | with_reducible apply Kp.dr1)) hb
      have Sq : Rd u2 pq qq (jq) := ho.rd
      have Sr : Rd u2 pr qr (jr) := ho2.rd
      clear ho ho2 hb
      obtain ⟨jm, hjm⟩ : ∃ z : List Nat, z = L ((V zs) * (V ys)) := ⟨_, rfl⟩
      have Nm : Hid (V jm = (V zs) * (V ys)) := Lib.hid (by rw [hjm, V_L])
      have ljm : jm.length ≤ 9000 := Nat.le_trans (NR.len_of hjm (fz.mul fy)) (by first | decide | omega)
      have Hm := Lib.hid hjm; clear hjm
      go_wp2_with fail
      refine (NR.mul (zs := jm) (xs := zs) (ys := ys) (by repeat (first | with_reducible exact Sz | with_reducible apply Rd.al | with_reducible apply Rd.dr | with_reducible apply Rd.dr1)) (by repeat (first | with_reducible exact Sy | with_reducible apply Rd.al | with_reducible apply Rd.dr | with_reducible apply Rd.dr1)) rfl rfl (by omega) (by omega) (Hm.out.trans (congrArg L (by first | with_reducible rfl | simp only [LN.V_nil, LN.V_one])))).mono ?_; rintro e u3 ⟨pm, qm, rfl, ho, hb⟩
      replace Sx : Rd u3 a0 cap0 (xs) := Rd.nx (by repeat (first | with_reducible exact Sx | with_reducible apply Rd.al | with_reducible apply Rd.dr | with_reducible apply Rd.dr1)) hb
      replace Sy : Rd u3 a1 cap1 (ys) := Rd.nx (by repeat (first | with_reducible exact Sy | with_reducible apply Rd.al | with_reducible apply Rd.dr | with_reducible apply Rd.dr1)) hb
      replace Sz : Rd u3 a2 cap2 (zs) := Rd.nx (by repeat (first | with_reducible exact Sz | with_reducible apply Rd.al | with_reducible apply Rd.dr | with_reducible apply Rd.dr1)) hb
      replace Sq : Rd u3 pq qq (jq) := Rd.nx (by repeat (first | with_reducible exact Sq | with_reducible apply Rd.al | with_reducible apply Rd.dr | with_reducible apply Rd.dr1)) hb
      replace Sr : Rd u3 pr qr (jr) := Rd.nx (by repeat (first | with_reducible exact Sr | with_reducible apply Rd.al | with_reducible apply Rd.dr | with_reducible apply Rd.dr1)) hb
      replace K : Kp w u3 := Kp.nx (by repeat (first | with_reducible exact K | with_reducible apply Kp.al | with_reducible apply Kp.dr | with_reducible apply Kp.dr1)) hb
      have Sm : Rd u3 pm qm (jm) := ho.rd
      clear ho hb
      obtain ⟨js, hjs⟩ : ∃ z : List Nat, z = L ((V xs) + ((V zs) * (V ys))) := ⟨_, rfl⟩
      have Ns : Hid (V js = (V xs) + ((V zs) * (V ys))) := Lib.hid (by rw [hjs, V_L])
      have ljs : js.length ≤ 9000 := Nat.le_trans (NR.len_of hjs (fx.add (fz.mul fy))) (by first | decide | omega)
      have Hs := Lib.hid hjs; clear hjs
      go_wp2_with fail
      refine (NR.add (zs := js) (xs := xs) (ys := jm) (by repeat (first | with_reducible exact Sx | with_reducible apply Rd.al | with_reducible apply Rd.dr | with_reducible apply Rd.dr1)) (by repeat (first | with_reducible exact Sm | with_reducible apply Rd.al | with_reducible apply Rd.dr | with_reducible apply Rd.dr1)) rfl rfl (by omega) (by omega) (Hs.out.trans (congrArg L (by first | with_reducible rfl | simp only [Nm.out, LN.V_nil, LN.V_one])))).mono ?_; rintro e u4 ⟨ps, qs, rfl, ho, hb⟩
      replace Sx : Rd u4 a0 cap0 (xs) := Rd.nx (by repeat (first | with_reducible exact Sx | with_reducible apply Rd.al | with_reducible apply Rd.dr | with_reducible apply Rd.dr1)) hb
      replace Sy : Rd u4 a1 cap1 (ys) := Rd.nx (by repeat (first | with_reducible exact Sy | with_reducible apply Rd.al | with_reducible apply Rd.dr | with_reducible apply Rd.dr1)) hb
      replace Sz : Rd u4 a2 cap2 (zs) := Rd.nx (by repeat (first | with_reducible exact Sz | with_reducible apply Rd.al | with_reducible apply Rd.dr | with_reducible apply Rd.dr1)) hb
      replace Sq : Rd u4 pq qq (jq) := Rd.nx (by repeat (first | with_reducible exact Sq | with_reducible apply Rd.al | with_reducible apply Rd.dr | with_reducible apply Rd.dr1)) hb
      replace Sr : Rd u4 pr qr (jr) := Rd.nx (by repeat (first | with_reducible exact Sr | with_reducible apply Rd.al | with_reducible apply Rd.dr | with_reducible apply Rd.dr1)) hb
      replace Sm : Rd u4 pm qm (jm) := Rd.nx (by repeat (first | with_reducible exact Sm | with_reducible apply Rd.al | with_reducible apply Rd.dr | with_reducible apply Rd.dr1)) hb
      replace K : Kp w u4 := Kp.nx (by repeat (first | with_reducible exact K | with_reducible apply Kp.al | with_reducible apply Kp.dr | with_reducible apply Kp.dr1)) hb
      have Ss : Rd u4 ps qs (js) := ho.rd
      clear ho hb
      obtain ⟨jp, hjp⟩ : ∃ z : List Nat, z = L (((V xs) + ((V zs) * (V ys))) / (V ys)) := ⟨_, rfl⟩
      have Np : Hid (V jp = ((V xs) + ((V zs) * (V ys))) / (V ys)) := Lib.hid (by rw [hjp, V_L])
      have ljp : jp.length ≤ 9000 := Nat.le_trans (NR.len_of hjp ((fx.add (fz.mul fy)).div _)) (by first | decide | omega)
      have Hp := Lib.hid hjp; clear hjp
      obtain ⟨ju, hju⟩ : ∃ z : List Nat, z = L (((V xs) + ((V zs) * (V ys))) % (V ys)) := ⟨_, rfl⟩
      have Nu : Hid (V ju = ((V xs) + ((V zs) * (V ys))) % (V ys)) := Lib.hid (by rw [hju, V_L])
      have lju : ju.length ≤ 9000 := Nat.le_trans (NR.len_of hju ((fx.add (fz.mul fy)).mono (Nat.mod_le _ _))) (by first | decide | omega)
      have Hu := Lib.hid hju; clear hju
      go_wp2_with fail
      refine (QR.div1 (xs := js) (ys := ys) (by repeat (first | with_reducible exact Ss | with_reducible apply Rd.al | with_reducible apply Rd.dr | with_reducible apply Rd.dr1)) (by repeat (first | with_reducible exact Sy | with_reducible apply Rd.al | with_reducible apply Rd.dr | with_reducible apply Rd.dr1)) rfl rfl (by omega) (by omega) jp ju 0 (Hp.out.trans (congrArg L (by first | with_reducible rfl | simp only [Ns.out, LN.V_nil, LN.V_one]))) (QL.drL_of HY.out (Hu.out.trans (congrArg L (by first | with_reducible rfl | simp only [Ns.out, LN.V_nil, LN.V_one])))) (QL.dE_of HY.out)).mono ?_; rintro e u5 ⟨pp, qp, pu, qu, rfl, ho, ho2, _, hb⟩
      replace Sx : Rd u5 a0 cap0 (xs) := Rd.nx (by repeat (first | with_reducible exact Sx | with_reducible apply Rd.al | with_reducible apply Rd.dr | with_reducible apply Rd.dr1)) hb
      replace Sy : Rd u5 a1 cap1 (ys) := Rd.nx (by repeat (first | with_reducible exact Sy | with_reducible apply Rd.al | with_reducible apply Rd.dr | with_reducible apply Rd.dr1)) hb
      replace Sz : Rd u5 a2 cap2 (zs) := Rd.nx (by repeat (first | with_reducible exact Sz | with_reducible apply Rd.al | with_reducible apply Rd.dr | with_reducible apply Rd.dr1)) hb
      replace Sq : Rd u5 pq qq (jq) := Rd.nx (by repeat (first | with_reducible exact Sq | with_reducible apply Rd.al | with_reducible apply Rd.dr | with_reducible apply Rd.dr1)) hb
      replace Sr : Rd u5 pr qr (jr) := Rd.nx (by repeat (first | with_reducible exact Sr | with_reducible apply Rd.al | with_reducible apply Rd.dr | with_reducible apply Rd.dr1)) hb
      replace Sm : Rd u5 pm qm (jm) := Rd.nx (by repeat (first | with_reducible exact Sm | with_reducible apply Rd.al | with_reducible apply Rd.dr | with_reducible apply Rd.dr1)) hb
      replace Ss : Rd u5 ps qs (js) := Rd.nx (by repeat (first | with_reducible exact Ss | with_reducible apply Rd.al | with_reducible apply Rd.dr | with_reducible apply Rd.dr1)) hb
      replace K : Kp w u5 := Kp.nx (by repeat (first | with_reducible exact K | with_reducible apply Kp.al | with_reducible apply Kp.dr | with_reducible apply Kp.dr1)) hb
      have Sp : Rd u5 pp qp (jp) := ho.rd
      have Su : Rd u5 pu qu (ju) := ho2.rd
      clear ho ho2 hb
      obtain ⟨jt, hjt⟩ : ∃ z : List Nat, z = L (((V xs) / (V ys)) + (V zs)) := ⟨_, rfl⟩
      have Nt : Hid (V jt = ((V xs) / (V ys)) + (V zs)) := Lib.hid (by rw [hjt, V_L])
      have ljt : jt.length ≤ 9000 := Nat.le_trans (NR.len_of hjt ((fx.div _).add fz)) (by first | decide | omega)
      have Ht := Lib.hid hjt; clear hjt
      go_wp2_with fail
      refine (NR.add (zs := jt) (xs := jq) (ys := zs) (by repeat (first | with_reducible exact Sq | with_reducible apply Rd.al | with_reducible apply Rd.dr | with_reducible apply Rd.dr1)) (by repeat (first | with_reducible exact Sz | with_reducible apply Rd.al | with_reducible apply Rd.dr | with_reducible apply Rd.dr1)) rfl rfl (by omega) (by omega) (Ht.out.trans (congrArg L (by first | with_reducible rfl | simp only [Nq.out, LN.V_nil, LN.V_one])))).mono ?_; rintro e u6 ⟨pt, qt, rfl, ho, hb⟩
      replace Sx : Rd u6 a0 cap0 (xs) := Rd.nx (by repeat (first | with_reducible exact Sx | with_reducible apply Rd.al | with_reducible apply Rd.dr | with_reducible apply Rd.dr1)) hb
      replace Sy : Rd u6 a1 cap1 (ys) := Rd.nx (by repeat (first | with_reducible exact Sy | with_reducible apply Rd.al | with_reducible apply Rd.dr | with_reducible apply Rd.dr1)) hb
      replace Sz : Rd u6 a2 cap2 (zs) := Rd.nx (by repeat (first | with_reducible exact Sz | with_reducible apply Rd.al | with_reducible apply Rd.dr | with_reducible apply Rd.dr1)) hb
      replace Sq : Rd u6 pq qq (jq) := Rd.nx (by repeat (first | with_reducible exact Sq | with_reducible apply Rd.al | with_reducible apply Rd.dr | with_reducible apply Rd.dr1)) hb
      replace Sr : Rd u6 pr qr (jr) := Rd.nx (by repeat (first | with_reducible exact Sr | with_reducible apply Rd.al | with_reducible apply Rd.dr | with_reducible apply Rd.dr1)) hb
      replace Sm : Rd u6 pm qm (jm) := Rd.nx (by repeat (first | with_reducible exact Sm | with_reducible apply Rd.al | with_reducible apply Rd.dr | with_reducible apply Rd.dr1)) hb
      replace Ss : Rd u6 ps qs (js) := Rd.nx (by repeat (first | with_reducible exact Ss | with_reducible apply Rd.al | with_reducible apply Rd.dr | with_reducible apply Rd.dr1)) hb
      replace Sp : Rd u6 pp qp (jp) := Rd.nx (by repeat (first | with_reducible exact Sp | with_reducible apply Rd.al | with_reducible apply Rd.dr | with_reducible apply Rd.dr1)) hb
      replace Su : Rd u6 pu qu (ju) := Rd.nx (by repeat (first | with_reducible exact Su | with_reducible apply Rd.al | with_reducible apply Rd.dr | with_reducible apply Rd.dr1)) hb
      replace K : Kp w u6 := Kp.nx (by repeat (first | with_reducible exact K | with_reducible apply Kp.al | with_reducible apply Kp.dr | with_reducible apply Kp.dr1)) hb
      have St : Rd u6 pt qt (jt) := ho.rd
      clear ho hb
      go_wp2_with fail
      refine (QL.same_yes (xs := jp) (ys := jt) (by repeat (first | with_reducible exact Sp | with_reducible apply Rd.al | with_reducible apply Rd.dr | with_reducible apply Rd.dr1)) (by repeat (first | with_reducible exact St | with_reducible apply Rd.al | with_reducible apply Rd.dr | with_reducible apply Rd.dr1)) rfl rfl (by omega) (Hp.out.trans ((congrArg L (mq _ _ _ HY.out)).trans Ht.out.symm))).mono ?_; rintro e u7 ⟨rfl, hb⟩
      replace Sx : Rd u7 a0 cap0 (xs) := Rd.nx (by repeat (first | with_reducible exact Sx | with_reducible apply Rd.al | with_reducible apply Rd.dr | with_reducible apply Rd.dr1)) hb
      replace Sy : Rd u7 a1 cap1 (ys) := Rd.nx (by repeat (first | with_reducible exact Sy | with_reducible apply Rd.al | with_reducible apply Rd.dr | with_reducible apply Rd.dr1)) hb
      replace Sz : Rd u7 a2 cap2 (zs) := Rd.nx (by repeat (first | with_reducible exact Sz | with_reducible apply Rd.al | with_reducible apply Rd.dr | with_reducible apply Rd.dr1)) hb
      replace Sq : Rd u7 pq qq (jq) := Rd.nx (by repeat (first | with_reducible exact Sq | with_reducible apply Rd.al | with_reducible apply Rd.dr | with_reducible apply Rd.dr1)) hb
      replace Sr : Rd u7 pr qr (jr) := Rd.nx (by repeat (first | with_reducible exact Sr | with_reducible apply Rd.al | with_reducible apply Rd.dr | with_reducible apply Rd.dr1)) hb
      replace Sm : Rd u7 pm qm (jm) := Rd.nx (by repeat (first | with_reducible exact Sm | with_reducible apply Rd.al | with_reducible apply Rd.dr | with_reducible apply Rd.dr1)) hb
      replace Ss : Rd u7 ps qs (js) := Rd.nx (by repeat (first | with_reducible exact Ss | with_reducible apply Rd.al | with_reducible apply Rd.dr | with_reducible apply Rd.dr1)) hb
      replace Sp : Rd u7 pp qp (jp) := Rd.nx (by repeat (first | with_reducible exact Sp | with_reducible apply Rd.al | with_reducible apply Rd.dr | with_reducible apply Rd.dr1)) hb
      replace Su : Rd u7 pu qu (ju) := Rd.nx (by repeat (first | with_reducible exact Su | with_reducible apply Rd.al | with_reducible apply Rd.dr | with_reducible apply Rd.dr1)) hb
      replace St : Rd u7 pt qt (jt) := Rd.nx (by repeat (first | with_reducible exact St | with_reducible apply Rd.al | with_reducible apply Rd.dr | with_reducible apply Rd.dr1)) hb
      replace K : Kp w u7 := Kp.nx (by repeat (first | with_reducible exact K | with_reducible apply Kp.al | with_reducible apply Kp.dr | with_reducible apply Kp.dr1)) hb
      clear hb
      go_wp2_with fail
      refine (QL.same_yes (xs := ju) (ys := jr) (by repeat (first | with_reducible exact Su | with_reducible apply Rd.al | with_reducible apply Rd.dr | with_reducible apply Rd.dr1)) (by repeat (first | with_reducible exact Sr | with_reducible apply Rd.al | with_reducible apply Rd.dr | with_reducible apply Rd.dr1)) rfl rfl (by omega) (Hu.out.trans ((congrArg L (mr _ _ _)).trans Hr.out.symm))).mono ?_; rintro e u8 ⟨rfl, hb⟩
      replace Sx : Rd u8 a0 cap0 (xs) := Rd.nx (by repeat (first | with_reducible exact Sx | with_reducible apply Rd.al | with_reducible apply Rd.dr | with_reducible apply Rd.dr1)) hb
      replace Sy : Rd u8 a1 cap1 (ys) := Rd.nx (by repeat (first | with_reducible exact Sy | with_reducible apply Rd.al | with_reducible apply Rd.dr | with_reducible apply Rd.dr1)) hb
      replace Sz : Rd u8 a2 cap2 (zs) := Rd.nx (by repeat (first | with_reducible exact Sz | with_reducible apply Rd.al | with_reducible apply Rd.dr | with_reducible apply Rd.dr1)) hb
      replace Sq : Rd u8 pq qq (jq) := Rd.nx (by repeat (first | with_reducible exact Sq | with_reducible apply Rd.al | with_reducible apply Rd.dr | with_reducible apply Rd.dr1)) hb
      replace Sr : Rd u8 pr qr (jr) := Rd.nx (by repeat (first | with_reducible exact Sr | with_reducible apply Rd.al | with_reducible apply Rd.dr | with_reducible apply Rd.dr1)) hb
      replace Sm : Rd u8 pm qm (jm) := Rd.nx (by repeat (first | with_reducible exact Sm | with_reducible apply Rd.al | with_reducible apply Rd.dr | with_reducible apply Rd.dr1)) hb
      replace Ss : Rd u8 ps qs (js) := Rd.nx (by repeat (first | with_reducible exact Ss | with_reducible apply Rd.al | with_reducible apply Rd.dr | with_reducible apply Rd.dr1)) hb
      replace Sp : Rd u8 pp qp (jp) := Rd.nx (by repeat (first | with_reducible exact Sp | with_reducible apply Rd.al | with_reducible apply Rd.dr | with_reducible apply Rd.dr1)) hb
      replace Su : Rd u8 pu qu (ju) := Rd.nx (by repeat (first | with_reducible exact Su | with_reducible apply Rd.al | with_reducible apply Rd.dr | with_reducible apply Rd.dr1)) hb
      replace St : Rd u8 pt qt (jt) := Rd.nx (by repeat (first | with_reducible exact St | with_reducible apply Rd.al | with_reducible apply Rd.dr | with_reducible apply Rd.dr1)) hb
      replace K : Kp w u8 := Kp.nx (by repeat (first | with_reducible exact K | with_reducible apply Kp.al | with_reducible apply Kp.dr | with_reducible apply Kp.dr1)) hb
      clear hb
      clear Sm
      clear Ss
      clear Sp
      clear Su
      clear St
      go_wp2_with fail
      refine (QR.div1 (xs := jq) (ys := zs) (by repeat (first | with_reducible exact Sq | with_reducible apply Rd.al | with_reducible apply Rd.dr | with_reducible apply Rd.dr1)) (by repeat (first | with_reducible exact Sz | with_reducible apply Rd.al | with_reducible apply Rd.dr | with_reducible apply Rd.dr1)) rfl rfl (by omega) (by omega) [] [] 7 (QL.dq_zero HW.out) (QL.drL_zero HW.out) (QL.dE_zero HW.out)).mono ?_; rintro e u9 ⟨pv, qv, pv2, qv2, rfl, ho, ho2, _, hb⟩
      replace Sx : Rd u9 a0 cap0 (xs) := Rd.nx (by repeat (first | with_reducible exact Sx | with_reducible apply Rd.al | with_reducible apply Rd.dr | with_reducible apply Rd.dr1)) hb
      replace Sy : Rd u9 a1 cap1 (ys) := Rd.nx (by repeat (first | with_reducible exact Sy | with_reducible apply Rd.al | with_reducible apply Rd.dr | with_reducible apply Rd.dr1)) hb
      replace Sz : Rd u9 a2 cap2 (zs) := Rd.nx (by repeat (first | with_reducible exact Sz | with_reducible apply Rd.al | with_reducible apply Rd.dr | with_reducible apply Rd.dr1)) hb
      replace Sq : Rd u9 pq qq (jq) := Rd.nx (by repeat (first | with_reducible exact Sq | with_reducible apply Rd.al | with_reducible apply Rd.dr | with_reducible apply Rd.dr1)) hb
      replace Sr : Rd u9 pr qr (jr) := Rd.nx (by repeat (first | with_reducible exact Sr | with_reducible apply Rd.al | with_reducible apply Rd.dr | with_reducible apply Rd.dr1)) hb
      replace K : Kp w u9 := Kp.nx (by repeat (first | with_reducible exact K | with_reducible apply Kp.al | with_reducible apply Kp.dr | with_reducible apply Kp.dr1)) hb
      have Sv : Rd u9 pv qv ([]) := ho.rd
      have Sv2 : Rd u9 pv2 qv2 ([]) := ho2.rd
      clear ho ho2 hb
      obtain ⟨jn, hjn⟩ : ∃ z : List Nat, z = L ((V ys) * (V zs)) := ⟨_, rfl⟩
      have Nn : Hid (V jn = (V ys) * (V zs)) := Lib.hid (by rw [hjn, V_L])
      have ljn : jn.length ≤ 9000 := Nat.le_trans (NR.len_of hjn (fy.mul fz)) (by first | decide | omega)
      have Hn := Lib.hid hjn; clear hjn
      go_wp2_with fail
      refine (NR.mul (zs := jn) (xs := ys) (ys := zs) (by repeat (first | with_reducible exact Sy | with_reducible apply Rd.al | with_reducible apply Rd.dr | with_reducible apply Rd.dr1)) (by repeat (first | with_reducible exact Sz | with_reducible apply Rd.al | with_reducible apply Rd.dr | with_reducible apply Rd.dr1)) rfl rfl (by omega) (by omega) (Hn.out.trans (congrArg L (by first | with_reducible rfl | simp only [LN.V_nil, LN.V_one])))).mono ?_; rintro e u10 ⟨pn, qn, rfl, ho, hb⟩
      replace Sx : Rd u10 a0 cap0 (xs) := Rd.nx (by repeat (first | with_reducible exact Sx | with_reducible apply Rd.al | with_reducible apply Rd.dr | with_reducible apply Rd.dr1)) hb
      replace Sy : Rd u10 a1 cap1 (ys) := Rd.nx (by repeat (first | with_reducible exact Sy | with_reducible apply Rd.al | with_reducible apply Rd.dr | with_reducible apply Rd.dr1)) hb
      replace Sz : Rd u10 a2 cap2 (zs) := Rd.nx (by repeat (first | with_reducible exact Sz | with_reducible apply Rd.al | with_reducible apply Rd.dr | with_reducible apply Rd.dr1)) hb
      replace Sq : Rd u10 pq qq (jq) := Rd.nx (by repeat (first | with_reducible exact Sq | with_reducible apply Rd.al | with_reducible apply Rd.dr | with_reducible apply Rd.dr1)) hb
      replace Sr : Rd u10 pr qr (jr) := Rd.nx (by repeat (first | with_reducible exact Sr | with_reducible apply Rd.al | with_reducible apply Rd.dr | with_reducible apply Rd.dr1)) hb
      replace Sv : Rd u10 pv qv ([]) := Rd.nx (by repeat (first | with_reducible exact Sv | with_reducible apply Rd.al | with_reducible apply Rd.dr | with_reducible apply Rd.dr1)) hb
      replace Sv2 : Rd u10 pv2 qv2 ([]) := Rd.nx (by repeat (first | with_reducible exact Sv2 | with_reducible apply Rd.al | with_reducible apply Rd.dr | with_reducible apply Rd.dr1)) hb
      replace K : Kp w u10 := Kp.nx (by repeat (first | with_reducible exact K | with_reducible apply Kp.al | with_reducible apply Kp.dr | with_reducible apply Kp.dr1)) hb
      have Sn : Rd u10 pn qn (jn) := ho.rd
      clear ho hb
      go_wp2_with fail
      refine (QR.div1 (xs := xs) (ys := jn) (by repeat (first | with_reducible exact Sx | with_reducible apply Rd.al | with_reducible apply Rd.dr | with_reducible apply Rd.dr1)) (by repeat (first | with_reducible exact Sn | with_reducible apply Rd.al | with_reducible apply Rd.dr | with_reducible apply Rd.dr1)) rfl rfl (by omega) (by omega) [] [] 7 (QL.dq_zero (by rw [Nn.out, HW.out, Nat.mul_zero])) (QL.drL_zero (by rw [Nn.out, HW.out, Nat.mul_zero])) (QL.dE_zero (by rw [Nn.out, HW.out, Nat.mul_zero]))).mono ?_; rintro e u11 ⟨pk, qk, pk2, qk2, rfl, ho, ho2, _, hb⟩
      replace Sx : Rd u11 a0 cap0 (xs) := Rd.nx (by repeat (first | with_reducible exact Sx | with_reducible apply Rd.al | with_reducible apply Rd.dr | with_reducible apply Rd.dr1)) hb
      replace Sy : Rd u11 a1 cap1 (ys) := Rd.nx (by repeat (first | with_reducible exact Sy | with_reducible apply Rd.al | with_reducible apply Rd.dr | with_reducible apply Rd.dr1)) hb
      replace Sz : Rd u11 a2 cap2 (zs) := Rd.nx (by repeat (first | with_reducible exact Sz | with_reducible apply Rd.al | with_reducible apply Rd.dr | with_reducible apply Rd.dr1)) hb
      replace Sq : Rd u11 pq qq (jq) := Rd.nx (by repeat (first | with_reducible exact Sq | with_reducible apply Rd.al | with_reducible apply Rd.dr | with_reducible apply Rd.dr1)) hb
      replace Sr : Rd u11 pr qr (jr) := Rd.nx (by repeat (first | with_reducible exact Sr | with_reducible apply Rd.al | with_reducible apply Rd.dr | with_reducible apply Rd.dr1)) hb
      replace Sv : Rd u11 pv qv ([]) := Rd.nx (by repeat (first | with_reducible exact Sv | with_reducible apply Rd.al | with_reducible apply Rd.dr | with_reducible apply Rd.dr1)) hb
      replace Sv2 : Rd u11 pv2 qv2 ([]) := Rd.nx (by repeat (first | with_reducible exact Sv2 | with_reducible apply Rd.al | with_reducible apply Rd.dr | with_reducible apply Rd.dr1)) hb
      replace Sn : Rd u11 pn qn (jn) := Rd.nx (by repeat (first | with_reducible exact Sn | with_reducible apply Rd.al | with_reducible apply Rd.dr | with_reducible apply Rd.dr1)) hb
      replace K : Kp w u11 := Kp.nx (by repeat (first | with_reducible exact K | with_reducible apply Kp.al | with_reducible apply Kp.dr | with_reducible apply Kp.dr1)) hb
      have Sk : Rd u11 pk qk ([]) := ho.rd
      have Sk2 : Rd u11 pk2 qk2 ([]) := ho2.rd
      clear ho ho2 hb
      go_wp2_with fail
      refine (QL.same_yes (xs := []) (ys := []) (by repeat (first | with_reducible exact Sv | with_reducible apply Rd.al | with_reducible apply Rd.dr | with_reducible apply Rd.dr1)) (by repeat (first | with_reducible exact Sk | with_reducible apply Rd.al | with_reducible apply Rd.dr | with_reducible apply Rd.dr1)) rfl rfl (by decide) rfl).mono ?_; rintro e u12 ⟨rfl, hb⟩
      replace Sx : Rd u12 a0 cap0 (xs) := Rd.nx (by repeat (first | with_reducible exact Sx | with_reducible apply Rd.al | with_reducible apply Rd.dr | with_reducible apply Rd.dr1)) hb
      replace Sy : Rd u12 a1 cap1 (ys) := Rd.nx (by repeat (first | with_reducible exact Sy | with_reducible apply Rd.al | with_reducible apply Rd.dr | with_reducible apply Rd.dr1)) hb
      replace Sz : Rd u12 a2 cap2 (zs) := Rd.nx (by repeat (first | with_reducible exact Sz | with_reducible apply Rd.al | with_reducible apply Rd.dr | with_reducible apply Rd.dr1)) hb
      replace Sq : Rd u12 pq qq (jq) := Rd.nx (by repeat (first | with_reducible exact Sq | with_reducible apply Rd.al | with_reducible apply Rd.dr | with_reducible apply Rd.dr1)) hb
      replace Sr : Rd u12 pr qr (jr) := Rd.nx (by repeat (first | with_reducible exact Sr | with_reducible apply Rd.al | with_reducible apply Rd.dr | with_reducible apply Rd.dr1)) hb
      replace Sv : Rd u12 pv qv ([]) := Rd.nx (by repeat (first | with_reducible exact Sv | with_reducible apply Rd.al | with_reducible apply Rd.dr | with_reducible apply Rd.dr1)) hb
      replace Sv2 : Rd u12 pv2 qv2 ([]) := Rd.nx (by repeat (first | with_reducible exact Sv2 | with_reducible apply Rd.al | with_reducible apply Rd.dr | with_reducible apply Rd.dr1)) hb
      replace Sn : Rd u12 pn qn (jn) := Rd.nx (by repeat (first | with_reducible exact Sn | with_reducible apply Rd.al | with_reducible apply Rd.dr | with_reducible apply Rd.dr1)) hb
      replace Sk : Rd u12 pk qk ([]) := Rd.nx (by repeat (first | with_reducible exact Sk | with_reducible apply Rd.al | with_reducible apply Rd.dr | with_reducible apply Rd.dr1)) hb
      replace Sk2 : Rd u12 pk2 qk2 ([]) := Rd.nx (by repeat (first | with_reducible exact Sk2 | with_reducible apply Rd.al | with_reducible apply Rd.dr | with_reducible apply Rd.dr1)) hb
      replace K : Kp w u12 := Kp.nx (by repeat (first | with_reducible exact K | with_reducible apply Kp.al | with_reducible apply Kp.dr | with_reducible apply Kp.dr1)) hb
      clear hb
      go_wp2_with fail
      refine (NR.zero (xs := zs) (by repeat (first | with_reducible exact Sz | with_reducible apply Rd.al | with_reducible apply Rd.dr | with_reducible apply Rd.dr1)) rfl (by omega) true (by rw [HW.out]; rfl)).mono ?_; rintro e w' ⟨rfl, rfl⟩
      go_wp2_with fail
      go_ret
      exact ⟨rfl, Kp.below (by repeat (first | with_reducible exact K | with_reducible apply Kp.al | with_reducible apply Kp.dr | with_reducible apply Kp.dr1))⟩
    · have HY := Lib.hid hy; clear hy
      have HW := Lib.hid hw; clear hw
      go_enter Try.func10, Try.ntmps10
      go_wp2_with fail
      refine (QL.long3 (by simp) false HZ).mono ?_; rintro e w' ⟨rfl, rfl⟩
      go_wp2_with fail
      refine (NR.zero (xs := ys) (by repeat (first | with_reducible exact Sy | with_reducible apply Rd.al | with_reducible apply Rd.dr | with_reducible apply Rd.dr1)) rfl (by omega) false (by have := HY.out; symm; rw [beq_eq_false_iff_ne]; exact this)).mono ?_; rintro e w' ⟨rfl, rfl⟩
      go_wp2_with fail
      refine (QL.awake _).mono ?_; rintro e u1 ⟨rfl, hb⟩
      replace Sx : Rd u1 a0 cap0 (xs) := Rd.nx (by repeat (first | with_reducible exact Sx | with_reducible apply Rd.al | with_reducible apply Rd.dr | with_reducible apply Rd.dr1)) hb
      replace Sy : Rd u1 a1 cap1 (ys) := Rd.nx (by repeat (first | with_reducible exact Sy | with_reducible apply Rd.al | with_reducible apply Rd.dr | with_reducible apply Rd.dr1)) hb
      replace Sz : Rd u1 a2 cap2 (zs) := Rd.nx (by repeat (first | with_reducible exact Sz | with_reducible apply Rd.al | with_reducible apply Rd.dr | with_reducible apply Rd.dr1)) hb
      replace K : Kp w u1 := Kp.nx (by repeat (first | with_reducible exact K | with_reducible apply Kp.al | with_reducible apply Kp.dr | with_reducible apply Kp.dr1)) hb
      clear hb
      obtain ⟨jq, hjq⟩ : ∃ z : List Nat, z = L ((V xs) / (V ys)) := ⟨_, rfl⟩
      have Nq : Hid (V jq = (V xs) / (V ys)) := Lib.hid (by rw [hjq, V_L])
      have ljq : jq.length ≤ 9000 := Nat.le_trans (NR.len_of hjq (fx.div _)) (by first | decide | omega)
      have Hq := Lib.hid hjq; clear hjq
      obtain ⟨jr, hjr⟩ : ∃ z : List Nat, z = L ((V xs) % (V ys)) := ⟨_, rfl⟩
      have Nr : Hid (V jr = (V xs) % (V ys)) := Lib.hid (by rw [hjr, V_L])
      have ljr : jr.length ≤ 9000 := Nat.le_trans (NR.len_of hjr (fx.mono (Nat.mod_le _ _))) (by first | decide | omega)
      have Hr := Lib.hid hjr; clear hjr
      go_wp2_with fail
      refine (QR.div1 (xs := xs) (ys := ys) (by repeat (first | with_reducible exact Sx | with_reducible apply Rd.al | with_reducible apply Rd.dr | with_reducible apply Rd.dr1)) (by repeat (first | with_reducible exact Sy | with_reducible apply Rd.al | with_reducible apply Rd.dr | with_reducible apply Rd.dr1)) rfl rfl (by omega) (by omega) jq jr 0 (Hq.out.trans (congrArg L (by first | with_reducible rfl | simp only [LN.V_nil, LN.V_one]))) (QL.drL_of HY.out (Hr.out.trans (congrArg L (by first | with_reducible rfl | simp only [LN.V_nil, LN.V_one])))) (QL.dE_of HY.out)).mono ?_; rintro e u2 ⟨pq, qq, pr, qr, rfl, ho, ho2, _, hb⟩
      replace Sx : Rd u2 a0 cap0 (xs) := Rd.nx (by repeat (first | with_reducible exact Sx | with_reducible apply Rd.al | with_reducible apply Rd.dr | with_reducible apply Rd.dr1)) hb
      replace Sy : Rd u2 a1 cap1 (ys) := Rd.nx (by repeat (first | with_reducible exact Sy | with_reducible apply Rd.al | with_reducible apply Rd.dr | with_reducible apply Rd.dr1)) hb
      replace Sz : Rd u2 a2 cap2 (zs) := Rd.nx (by repeat (first | with_reducible exact Sz | with_reducible apply Rd.al | with_reducible apply Rd.dr | with_reducible apply Rd.dr1)) hb
      replace K : Kp w u2 := Kp.nx (by repeat (first | with_reducible exact K | with_reducible apply Kp.al | with_reducible apply Kp.dr | with_reducible apply Kp.dr1)) hb
      have Sq : Rd u2 pq qq (jq) := ho.rd
      have Sr : Rd u2 pr qr (jr) := ho2.rd
      clear ho ho2 hb
      obtain ⟨jm, hjm⟩ : ∃ z : List Nat, z = L ((V zs) * (V ys)) := ⟨_, rfl⟩
      have Nm : Hid (V jm = (V zs) * (V ys)) := Lib.hid (by rw [hjm, V_L])
      have ljm : jm.length ≤ 9000 := Nat.le_trans (NR.len_of hjm (fz.mul fy)) (by first | decide | omega)
      have Hm := Lib.hid hjm; clear hjm
      go_wp2_with fail
      refine (NR.mul (zs := jm) (xs := zs) (ys := ys) (by repeat (first | with_reducible exact Sz | with_reducible apply Rd.al | with_reducible apply Rd.dr | with_reducible apply Rd.dr1)) (by repeat (first | with_reducible exact Sy | with_reducible apply Rd.al | with_reducible apply Rd.dr | with_reducible apply Rd.dr1)) rfl rfl (by omega) (by omega) (Hm.out.trans (congrArg L (by first | with_reducible rfl | simp only [LN.V_nil, LN.V_one])))).mono ?_; rintro e u3 ⟨pm, qm, rfl, ho, hb⟩
      replace Sx : Rd u3 a0 cap0 (xs) := Rd.nx (by repeat (first | with_reducible exact Sx | with_reducible apply Rd.al | with_reducible apply Rd.dr | with_reducible apply Rd.dr1)) hb
      replace Sy : Rd u3 a1 cap1 (ys) := Rd.nx (by repeat (first | with_reducible exact Sy | with_reducible apply Rd.al | with_reducible apply Rd.dr | with_reducible apply Rd.dr1)) hb
      replace Sz : Rd u3 a2 cap2 (zs) := Rd.nx (by repeat (first | with_reducible exact Sz | with_reducible apply Rd.al | with_reducible apply Rd.dr | with_reducible apply Rd.dr1)) hb
      replace Sq : Rd u3 pq qq (jq) := Rd.nx (by repeat (first | with_reducible exact Sq | with_reducible apply Rd.al | with_reducible apply Rd.dr | with_reducible apply Rd.dr1)) hb
      replace Sr : Rd u3 pr qr (jr) := Rd.nx (by repeat (first | with_reducible exact Sr | with_reducible apply Rd.al | with_reducible apply Rd.dr | with_reducible apply Rd.dr1)) hb
      replace K : Kp w u3 := Kp.nx (by repeat (first | with_reducible exact K | with_reducible apply Kp.al | with_reducible apply Kp.dr | with_reducible apply Kp.dr1)) hb
      have Sm : Rd u3 pm qm (jm) := ho.rd
      clear ho hb
      obtain ⟨js, hjs⟩ : ∃ z : List Nat, z = L ((V xs) + ((V zs) * (V ys))) := ⟨_, rfl⟩
      have Ns : Hid (V js = (V xs) + ((V zs) * (V ys))) := Lib.hid (by rw [hjs, V_L])
      have ljs : js.length ≤ 9000 := Nat.le_trans (NR.len_of hjs (fx.add (fz.mul fy))) (by first | decide | omega)
      have Hs := Lib.hid hjs; clear hjs
      go_wp2_with fail
      refine (NR.add (zs := js) (xs := xs) (ys := jm) (by repeat (first | with_reducible exact Sx | with_reducible apply Rd.al | with_reducible apply Rd.dr | with_reducible apply Rd.dr1)) (by repeat (first | with_reducible exact Sm | with_reducible apply Rd.al | with_reducible apply Rd.dr | with_reducible apply Rd.dr1)) rfl rfl (by omega) (by omega) (Hs.out.trans (congrArg L (by first | with_reducible rfl | simp only [Nm.out, LN.V_nil, LN.V_one])))).mono ?_; rintro e u4 ⟨ps, qs, rfl, ho, hb⟩
      replace Sx : Rd u4 a0 cap0 (xs) := Rd.nx (by repeat (first | with_reducible exact Sx | with_reducible apply Rd.al | with_reducible apply Rd.dr | with_reducible apply Rd.dr1)) hb
      replace Sy : Rd u4 a1 cap1 (ys) := Rd.nx (by repeat (first | with_reducible exact Sy | with_reducible apply Rd.al | with_reducible apply Rd.dr | with_reducible apply Rd.dr1)) hb
      replace Sz : Rd u4 a2 cap2 (zs) := Rd.nx (by repeat (first | with_reducible exact Sz | with_reducible apply Rd.al | with_reducible apply Rd.dr | with_reducible apply Rd.dr1)) hb
      replace Sq : Rd u4 pq qq (jq) := Rd.nx (by repeat (first | with_reducible exact Sq | with_reducible apply Rd.al | with_reducible apply Rd.dr | with_reducible apply Rd.dr1)) hb
      replace Sr : Rd u4 pr qr (jr) := Rd.nx (by repeat (first | with_reducible exact Sr | with_reducible apply Rd.al | with_reducible apply Rd.dr | with_reducible apply Rd.dr1)) hb
      replace Sm : Rd u4 pm qm (jm) := Rd.nx (by repeat (first | with_reducible exact Sm | with_reducible apply Rd.al | with_reducible apply Rd.dr | with_reducible apply Rd.dr1)) hb
      replace K : Kp w u4 := Kp.nx (by repeat (first | with_reducible exact K | with_reducible apply Kp.al | with_reducible apply Kp.dr | with_reducible apply Kp.dr1)) hb
      have Ss : Rd u4 ps qs (js) := ho.rd
      clear ho hb
      obtain ⟨jp, hjp⟩ : ∃ z : List Nat, z = L (((V xs) + ((V zs) * (V ys))) / (V ys)) := ⟨_, rfl⟩
      have Np : Hid (V jp = ((V xs) + ((V zs) * (V ys))) / (V ys)) := Lib.hid (by rw [hjp, V_L])
      have ljp : jp.length ≤ 9000 := Nat.le_trans (NR.len_of hjp ((fx.add (fz.mul fy)).div _)) (by first | decide | omega)
      have Hp := Lib.hid hjp; clear hjp
      obtain ⟨ju, hju⟩ : ∃ z : List Nat, z = L (((V xs) + ((V zs) * (V ys))) % (V ys)) := ⟨_, rfl⟩
      have Nu : Hid (V ju = ((V xs) + ((V zs) * (V ys))) % (V ys)) := Lib.hid (by rw [hju, V_L])
      have lju : ju.length ≤ 9000 := Nat.le_trans (NR.len_of hju ((fx.add (fz.mul fy)).mono (Nat.mod_le _ _))) (by first | decide | omega)
      have Hu := Lib.hid hju; clear hju
      go_wp2_with fail
      refine (QR.div1 (xs := js) (ys := ys) (by repeat (first | with_reducible exact Ss | with_reducible apply Rd.al | with_reducible apply Rd.dr | with_reducible apply Rd.dr1)) (by repeat (first | with_reducible exact Sy | with_reducible apply Rd.al | with_reducible apply Rd.dr | with_reducible apply Rd.dr1)) rfl rfl (by omega) (by omega) jp ju 0 (Hp.out.trans (congrArg L (by first | with_reducible rfl | simp only [Ns.out, LN.V_nil, LN.V_one]))) (QL.drL_of HY.out (Hu.out.trans (congrArg L (by first | with_reducible rfl | simp only [Ns.out, LN.V_nil, LN.V_one])))) (QL.dE_of HY.out)).mono ?_; rintro e u5 ⟨pp, qp, pu, qu, rfl, ho, ho2, _, hb⟩
      replace Sx : Rd u5 a0 cap0 (xs) := Rd.nx (by repeat (first | with_reducible exact Sx | with_reducible apply Rd.al | with_reducible apply Rd.dr | with_reducible apply Rd.dr1)) hb
      replace Sy : Rd u5 a1 cap1 (ys) := Rd.nx (by repeat (first | with_reducible exact Sy | with_reducible apply Rd.al | with_reducible apply Rd.dr | with_reducible apply Rd.dr1)) hb
      replace Sz : Rd u5 a2 cap2 (zs) := Rd.nx (by repeat (first | with_reducible exact Sz | with_reducible apply Rd.al | with_reducible apply Rd.dr | with_reducible apply Rd.dr1)) hb
      replace Sq : Rd u5 pq qq (jq) := Rd.nx (by repeat (first | with_reducible exact Sq | with_reducible apply Rd.al | with_reducible apply Rd.dr | with_reducible apply Rd.dr1)) hb
      replace Sr : Rd u5 pr qr (jr) := Rd.nx (by repeat (first | with_reducible exact Sr | with_reducible apply Rd.al | with_reducible apply Rd.dr | with_reducible apply Rd.dr1)) hb
      replace Sm : Rd u5 pm qm (jm) := Rd.nx (by repeat (first | with_reducible exact Sm | with_reducible apply Rd.al | with_reducible apply Rd.dr | with_reducible apply Rd.dr1)) hb
      replace Ss : Rd u5 ps qs (js) := Rd.nx (by repeat (first | with_reducible exact Ss | with_reducible apply Rd.al | with_reducible apply Rd.dr | with_reducible apply Rd.dr1)) hb
      replace K : Kp w u5 := Kp.nx (by repeat (first | with_reducible exact K | with_reducible apply Kp.al | with_reducible apply Kp.dr | with_reducible apply Kp.dr1)) hb
      have Sp : Rd u5 pp qp (jp) := ho.rd
      have Su : Rd u5 pu qu (ju) := ho2.rd
      clear ho ho2 hb
      obtain ⟨jt, hjt⟩ : ∃ z : List Nat, z = L (((V xs) / (V ys)) + (V zs)) := ⟨_, rfl⟩
      have Nt : Hid (V jt = ((V xs) / (V ys)) + (V zs)) := Lib.hid (by rw [hjt, V_L])
      have ljt : jt.length ≤ 9000 := Nat.le_trans (NR.len_of hjt ((fx.div _).add fz)) (by first | decide | omega)
      have Ht := Lib.hid hjt; clear hjt
      go_wp2_with fail
      refine (NR.add (zs := jt) (xs := jq) (ys := zs) (by repeat (first | with_reducible exact Sq | with_reducible apply Rd.al | with_reducible apply Rd.dr | with_reducible apply Rd.dr1)) (by repeat (first | with_reducible exact Sz | with_reducible apply Rd.al | with_reducible apply Rd.dr | with_reducible apply Rd.dr1)) rfl rfl (by omega) (by omega) (Ht.out.trans (congrArg L (by first | with_reducible rfl | simp only [Nq.out, LN.V_nil, LN.V_one])))).mono ?_; rintro e u6 ⟨pt, qt, rfl, ho, hb⟩
      replace Sx : Rd u6 a0 cap0 (xs) := Rd.nx (by repeat (first | with_reducible exact Sx | with_reducible apply Rd.al | with_reducible apply Rd.dr | with_reducible apply Rd.dr1)) hb
      replace Sy : Rd u6 a1 cap1 (ys) := Rd.nx (by repeat (first | with_reducible exact Sy | with_reducible apply Rd.al | with_reducible apply Rd.dr | with_reducible apply Rd.dr1)) hb
      replace Sz : Rd u6 a2 cap2 (zs) := Rd.nx (by repeat (first | with_reducible exact Sz | with_reducible apply Rd.al | with_reducible apply Rd.dr | with_reducible apply Rd.dr1)) hb
      replace Sq : Rd u6 pq qq (jq) := Rd.nx (by repeat (first | with_reducible exact Sq | with_reducible apply Rd.al | with_reducible apply Rd.dr | with_reducible apply Rd.dr1)) hb
      replace Sr : Rd u6 pr qr (jr) := Rd.nx (by repeat (first | with_reducible exact Sr | with_reducible apply Rd.al | with_reducible apply Rd.dr | with_reducible apply Rd.dr1)) hb
      replace Sm : Rd u6 pm qm (jm) := Rd.nx (by repeat (first | with_reducible exact Sm | with_reducible apply Rd.al | with_reducible apply Rd.dr | with_reducible apply Rd.dr1)) hb
      replace Ss : Rd u6 ps qs (js) := Rd.nx (by repeat (first | with_reducible exact Ss | with_reducible apply Rd.al | with_reducible apply Rd.dr | with_reducible apply Rd.dr1)) hb
      replace Sp : Rd u6 pp qp (jp) := Rd.nx (by repeat (first | with_reducible exact Sp | with_reducible apply Rd.al | with_reducible apply Rd.dr | with_reducible apply Rd.dr1)) hb
      replace Su : Rd u6 pu qu (ju) := Rd.nx (by repeat (first | with_reducible exact Su | with_reducible apply Rd.al | with_reducible apply Rd.dr | with_reducible apply Rd.dr1)) hb
      replace K : Kp w u6 := Kp.nx (by repeat (first | with_reducible exact K | with_reducible apply Kp.al | with_reducible apply Kp.dr | with_reducible apply Kp.dr1)) hb
      have St : Rd u6 pt qt (jt) := ho.rd
      clear ho hb
      go_wp2_with fail
      refine (QL.same_yes (xs := jp) (ys := jt) (by repeat (first | with_reducible exact Sp | with_reducible apply Rd.al | with_reducible apply Rd.dr | with_reducible apply Rd.dr1)) (by repeat (first | with_reducible exact St | with_reducible apply Rd.al | with_reducible apply Rd.dr | with_reducible apply Rd.dr1)) rfl rfl (by omega) (Hp.out.trans ((congrArg L (mq _ _ _ HY.out)).trans Ht.out.symm))).mono ?_; rintro e u7 ⟨rfl, hb⟩
      replace Sx : Rd u7 a0 cap0 (xs) := Rd.nx (by repeat (first | with_reducible exact Sx | with_reducible apply Rd.al | with_reducible apply Rd.dr | with_reducible apply Rd.dr1)) hb
      replace Sy : Rd u7 a1 cap1 (ys) := Rd.nx (by repeat (first | with_reducible exact Sy | with_reducible apply Rd.al | with_reducible apply Rd.dr | with_reducible apply Rd.dr1)) hb
      replace Sz : Rd u7 a2 cap2 (zs) := Rd.nx (by repeat (first | with_reducible exact Sz | with_reducible apply Rd.al | with_reducible apply Rd.dr | with_reducible apply Rd.dr1)) hb
      replace Sq : Rd u7 pq qq (jq) := Rd.nx (by repeat (first | with_reducible exact Sq | with_reducible apply Rd.al | with_reducible apply Rd.dr | with_reducible apply Rd.dr1)) hb
      replace Sr : Rd u7 pr qr (jr) := Rd.nx (by repeat (first | with_reducible exact Sr | with_reducible apply Rd.al | with_reducible apply Rd.dr | with_reducible apply Rd.dr1)) hb
      replace Sm : Rd u7 pm qm (jm) := Rd.nx (by repeat (first | with_reducible exact Sm | with_reducible apply Rd.al | with_reducible apply Rd.dr | with_reducible apply Rd.dr1)) hb
      replace Ss : Rd u7 ps qs (js) := Rd.nx (by repeat (first | with_reducible exact Ss | with_reducible apply Rd.al | with_reducible apply Rd.dr | with_reducible apply Rd.dr1)) hb
      replace Sp : Rd u7 pp qp (jp) := Rd.nx (by repeat (first | with_reducible exact Sp | with_reducible apply Rd.al | with_reducible apply Rd.dr | with_reducible apply Rd.dr1)) hb
      replace Su : Rd u7 pu qu (ju) := Rd.nx (by repeat (first | with_reducible exact Su | with_reducible apply Rd.al | with_reducible apply Rd.dr | with_reducible apply Rd.dr1)) hb
      replace St : Rd u7 pt qt (jt) := Rd.nx (by repeat (first | with_reducible exact St | with_reducible apply Rd.al | with_reducible apply Rd.dr | with_reducible apply Rd.dr1)) hb
      replace K : Kp w u7 := Kp.nx (by repeat (first | with_reducible exact K | with_reducible apply Kp.al | with_reducible apply Kp.dr | with_reducible apply Kp.dr1)) hb
      clear hb
      go_wp2_with fail
      refine (QL.same_yes (xs := ju) (ys := jr) (by repeat (first | with_reducible exact Su | with_reducible apply Rd.al | with_reducible apply Rd.dr | with_reducible apply Rd.dr1)) (by repeat (first | with_reducible exact Sr | with_reducible apply Rd.al | with_reducible apply Rd.dr | with_reducible apply Rd.dr1)) rfl rfl (by omega) (Hu.out.trans ((congrArg L (mr _ _ _)).trans Hr.out.symm))).mono ?_; rintro e u8 ⟨rfl, hb⟩
      replace Sx : Rd u8 a0 cap0 (xs) := Rd.nx (by repeat (first | with_reducible exact Sx | with_reducible apply Rd.al | with_reducible apply Rd.dr | with_reducible apply Rd.dr1)) hb
      replace Sy : Rd u8 a1 cap1 (ys) := Rd.nx (by repeat (first | with_reducible exact Sy | with_reducible apply Rd.al | with_reducible apply Rd.dr | with_reducible apply Rd.dr1)) hb
      replace Sz : Rd u8 a2 cap2 (zs) := Rd.nx (by repeat (first | with_reducible exact Sz | with_reducible apply Rd.al | with_reducible apply Rd.dr | with_reducible apply Rd.dr1)) hb
      replace Sq : Rd u8 pq qq (jq) := Rd.nx (by repeat (first | with_reducible exact Sq | with_reducible apply Rd.al | with_reducible apply Rd.dr | with_reducible apply Rd.dr1)) hb
      replace Sr : Rd u8 pr qr (jr) := Rd.nx (by repeat (first | with_reducible exact Sr | with_reducible apply Rd.al | with_reducible apply Rd.dr | with_reducible apply Rd.dr1)) hb
      replace Sm : Rd u8 pm qm (jm) := Rd.nx (by repeat (first | with_reducible exact Sm | with_reducible apply Rd.al | with_reducible apply Rd.dr | with_reducible apply Rd.dr1)) hb
      replace Ss : Rd u8 ps qs (js) := Rd.nx (by repeat (first | with_reducible exact Ss | with_reducible apply Rd.al | with_reducible apply Rd.dr | with_reducible apply Rd.dr1)) hb
      replace Sp : Rd u8 pp qp (jp) := Rd.nx (by repeat (first | with_reducible exact Sp | with_reducible apply Rd.al | with_reducible apply Rd.dr | with_reducible apply Rd.dr1)) hb
      replace Su : Rd u8 pu qu (ju) := Rd.nx (by repeat (first | with_reducible exact Su | with_reducible apply Rd.al | with_reducible apply Rd.dr | with_reducible apply Rd.dr1)) hb
      replace St : Rd u8 pt qt (jt) := Rd.nx (by repeat (first | with_reducible exact St | with_reducible apply Rd.al | with_reducible apply Rd.dr | with_reducible apply Rd.dr1)) hb
      replace K : Kp w u8 := Kp.nx (by repeat (first | with_reducible exact K | with_reducible apply Kp.al | with_reducible apply Kp.dr | with_reducible apply Kp.dr1)) hb
      clear hb
      clear Sm
      clear Ss
      clear Sp
      clear Su
      clear St
      obtain ⟨jv, hjv⟩ : ∃ z : List Nat, z = L (((V xs) / (V ys)) / (V zs)) := ⟨_, rfl⟩
      have Nv : Hid (V jv = ((V xs) / (V ys)) / (V zs)) := Lib.hid (by rw [hjv, V_L])
      have ljv : jv.length ≤ 9000 := Nat.le_trans (NR.len_of hjv ((fx.div _).div _)) (by first | decide | omega)
      have Hv := Lib.hid hjv; clear hjv
      obtain ⟨jv2, hjv2⟩ : ∃ z : List Nat, z = L (((V xs) / (V ys)) % (V zs)) := ⟨_, rfl⟩
      have Nv2 : Hid (V jv2 = ((V xs) / (V ys)) % (V zs)) := Lib.hid (by rw [hjv2, V_L])
      have ljv2 : jv2.length ≤ 9000 := Nat.le_trans (NR.len_of hjv2 ((fx.div _).mono (Nat.mod_le _ _))) (by first | decide | omega)
      have Hv2 := Lib.hid hjv2; clear hjv2
      go_wp2_with fail
      refine (QR.div1 (xs := jq) (ys := zs) (by repeat (first | with_reducible exact Sq | with_reducible apply Rd.al | with_reducible apply Rd.dr | with_reducible apply Rd.dr1)) (by repeat (first | with_reducible exact Sz | with_reducible apply Rd.al | with_reducible apply Rd.dr | with_reducible apply Rd.dr1)) rfl rfl (by omega) (by omega) jv jv2 0 (Hv.out.trans (congrArg L (by first | with_reducible rfl | simp only [Nq.out, LN.V_nil, LN.V_one]))) (QL.drL_of HW.out (Hv2.out.trans (congrArg L (by first | with_reducible rfl | simp only [Nq.out, LN.V_nil, LN.V_one])))) (QL.dE_of HW.out)).mono ?_; rintro e u9 ⟨pv, qv, pv2, qv2, rfl, ho, ho2, _, hb⟩
      replace Sx : Rd u9 a0 cap0 (xs) := Rd.nx (by repeat (first | with_reducible exact Sx | with_reducible apply Rd.al | with_reducible apply Rd.dr | with_reducible apply Rd.dr1)) hb
      replace Sy : Rd u9 a1 cap1 (ys) := Rd.nx (by repeat (first | with_reducible exact Sy | with_reducible apply Rd.al | with_reducible apply Rd.dr | with_reducible apply Rd.dr1)) hb
      replace Sz : Rd u9 a2 cap2 (zs) := Rd.nx (by repeat (first | with_reducible exact Sz | with_reducible apply Rd.al | with_reducible apply Rd.dr | with_reducible apply Rd.dr1)) hb
      replace Sq : Rd u9 pq qq (jq) := Rd.nx (by repeat (first | with_reducible exact Sq | with_reducible apply Rd.al | with_reducible apply Rd.dr | with_reducible apply Rd.dr1)) hb
      replace Sr : Rd u9 pr qr (jr) := Rd.nx (by repeat (first | with_reducible exact Sr | with_reducible apply Rd.al | with_reducible apply Rd.dr | with_reducible apply Rd.dr1)) hb
      replace K : Kp w u9 := Kp.nx (by repeat (first | with_reducible exact K | with_reducible apply Kp.al | with_reducible apply Kp.dr | with_reducible apply Kp.dr1)) hb
      have Sv : Rd u9 pv qv (jv) := ho.rd
      have Sv2 : Rd u9 pv2 qv2 (jv2) := ho2.rd
      clear ho ho2 hb
      obtain ⟨jn, hjn⟩ : ∃ z : List Nat, z = L ((V ys) * (V zs)) := ⟨_, rfl⟩
      have Nn : Hid (V jn = (V ys) * (V zs)) := Lib.hid (by rw [hjn, V_L])
      have ljn : jn.length ≤ 9000 := Nat.le_trans (NR.len_of hjn (fy.mul fz)) (by first | decide | omega)
      have Hn := Lib.hid hjn; clear hjn
      go_wp2_with fail
      refine (NR.mul (zs := jn) (xs := ys) (ys := zs) (by repeat (first | with_reducible exact Sy | with_reducible apply Rd.al | with_reducible apply Rd.dr | with_reducible apply Rd.dr1)) (by repeat (first | with_reducible exact Sz | with_reducible apply Rd.al | with_reducible apply Rd.dr | with_reducible apply Rd.dr1)) rfl rfl (by omega) (by omega) (Hn.out.trans (congrArg L (by first | with_reducible rfl | simp only [LN.V_nil, LN.V_one])))).mono ?_; rintro e u10 ⟨pn, qn, rfl, ho, hb⟩
      replace Sx : Rd u10 a0 cap0 (xs) := Rd.nx (by repeat (first | with_reducible exact Sx | with_reducible apply Rd.al | with_reducible apply Rd.dr | with_reducible apply Rd.dr1)) hb
      replace Sy : Rd u10 a1 cap1 (ys) := Rd.nx (by repeat (first | with_reducible exact Sy | with_reducible apply Rd.al | with_reducible apply Rd.dr | with_reducible apply Rd.dr1)) hb
      replace Sz : Rd u10 a2 cap2 (zs) := Rd.nx (by repeat (first | with_reducible exact Sz | with_reducible apply Rd.al | with_reducible apply Rd.dr | with_reducible apply Rd.dr1)) hb
      replace Sq : Rd u10 pq qq (jq) := Rd.nx (by repeat (first | with_reducible exact Sq | with_reducible apply Rd.al | with_reducible apply Rd.dr | with_reducible apply Rd.dr1)) hb
      replace Sr : Rd u10 pr qr (jr) := Rd.nx (by repeat (first | with_reducible exact Sr | with_reducible apply Rd.al | with_reducible apply Rd.dr | with_reducible apply Rd.dr1)) hb
      replace Sv : Rd u10 pv qv (jv) := Rd.nx (by repeat (first | with_reducible exact Sv | with_reducible apply Rd.al | with_reducible apply Rd.dr | with_reducible apply Rd.dr1)) hb
      replace Sv2 : Rd u10 pv2 qv2 (jv2) := Rd.nx (by repeat (first | with_reducible exact Sv2 | with_reducible apply Rd.al | with_reducible apply Rd.dr | with_reducible apply Rd.dr1)) hb
      replace K : Kp w u10 := Kp.nx (by repeat (first | with_reducible exact K | with_reducible apply Kp.al | with_reducible apply Kp.dr | with_reducible apply Kp.dr1)) hb
      have Sn : Rd u10 pn qn (jn) := ho.rd
      clear ho hb
      obtain ⟨jk, hjk⟩ : ∃ z : List Nat, z = L ((V xs) / ((V ys) * (V zs))) := ⟨_, rfl⟩
      have Nk : Hid (V jk = (V xs) / ((V ys) * (V zs))) := Lib.hid (by rw [hjk, V_L])
      have ljk : jk.length ≤ 9000 := Nat.le_trans (NR.len_of hjk (fx.div _)) (by first | decide | omega)
      have Hk := Lib.hid hjk; clear hjk
      obtain ⟨jk2, hjk2⟩ : ∃ z : List Nat, z = L ((V xs) % ((V ys) * (V zs))) := ⟨_, rfl⟩
      have Nk2 : Hid (V jk2 = (V xs) % ((V ys) * (V zs))) := Lib.hid (by rw [hjk2, V_L])
      have ljk2 : jk2.length ≤ 9000 := Nat.le_trans (NR.len_of hjk2 (fx.mono (Nat.mod_le _ _))) (by first | decide | omega)
      have Hk2 := Lib.hid hjk2; clear hjk2
      go_wp2_with fail
      refine (QR.div1 (xs := xs) (ys := jn) (by repeat (first | with_reducible exact Sx | with_reducible apply Rd.al | with_reducible apply Rd.dr | with_reducible apply Rd.dr1)) (by repeat (first | with_reducible exact Sn | with_reducible apply Rd.al | with_reducible apply Rd.dr | with_reducible apply Rd.dr1)) rfl rfl (by omega) (by omega) jk jk2 0 (Hk.out.trans (congrArg L (by first | with_reducible rfl | simp only [Nn.out, LN.V_nil, LN.V_one]))) (QL.drL_of (by simp only [Nn.out, LN.V_nil, LN.V_one]; exact (mz _ _ HY.out HW.out)) (Hk2.out.trans (congrArg L (by first | with_reducible rfl | simp only [Nn.out, LN.V_nil, LN.V_one])))) (QL.dE_of (by simp only [Nn.out, LN.V_nil, LN.V_one]; exact (mz _ _ HY.out HW.out)))).mono ?_; rintro e u11 ⟨pk, qk, pk2, qk2, rfl, ho, ho2, _, hb⟩
      replace Sx : Rd u11 a0 cap0 (xs) := Rd.nx (by repeat (first | with_reducible exact Sx | with_reducible apply Rd.al | with_reducible apply Rd.dr | with_reducible apply Rd.dr1)) hb
      replace Sy : Rd u11 a1 cap1 (ys) := Rd.nx (by repeat (first | with_reducible exact Sy | with_reducible apply Rd.al | with_reducible apply Rd.dr | with_reducible apply Rd.dr1)) hb
      replace Sz : Rd u11 a2 cap2 (zs) := Rd.nx (by repeat (first | with_reducible exact Sz | with_reducible apply Rd.al | with_reducible apply Rd.dr | with_reducible apply Rd.dr1)) hb
      replace Sq : Rd u11 pq qq (jq) := Rd.nx (by repeat (first | with_reducible exact Sq | with_reducible apply Rd.al | with_reducible apply Rd.dr | with_reducible apply Rd.dr1)) hb
      replace Sr : Rd u11 pr qr (jr) := Rd.nx (by repeat (first | with_reducible exact Sr | with_reducible apply Rd.al | with_reducible apply Rd.dr | with_reducible apply Rd.dr1)) hb
      replace Sv : Rd u11 pv qv (jv) := Rd.nx (by repeat (first | with_reducible exact Sv | with_reducible apply Rd.al | with_reducible apply Rd.dr | with_reducible apply Rd.dr1)) hb
      replace Sv2 : Rd u11 pv2 qv2 (jv2) := Rd.nx (by repeat (first | with_reducible exact Sv2 | with_reducible apply Rd.al | with_reducible apply Rd.dr | with_reducible apply Rd.dr1)) hb
      replace Sn : Rd u11 pn qn (jn) := Rd.nx (by repeat (first | with_reducible exact Sn | with_reducible apply Rd.al | with_reducible apply Rd.dr | with_reducible apply Rd.dr1)) hb
      replace K : Kp w u11 := Kp.nx (by repeat (first | with_reducible exact K | with_reducible apply Kp.al | with_reducible apply Kp.dr | with_reducible apply Kp.dr1)) hb
      have Sk : Rd u11 pk qk (jk) := ho.rd
      have Sk2 : Rd u11 pk2 qk2 (jk2) := ho2.rd
      clear ho ho2 hb
      go_wp2_with fail
      refine (QL.same_yes (xs := jv) (ys := jk) (by repeat (first | with_reducible exact Sv | with_reducible apply Rd.al | with_reducible apply Rd.dr | with_reducible apply Rd.dr1)) (by repeat (first | with_reducible exact Sk | with_reducible apply Rd.al | with_reducible apply Rd.dr | with_reducible apply Rd.dr1)) rfl rfl (by omega) (Hv.out.trans ((congrArg L (mm _ _ _)).trans Hk.out.symm))).mono ?_; rintro e u12 ⟨rfl, hb⟩
      replace Sx : Rd u12 a0 cap0 (xs) := Rd.nx (by repeat (first | with_reducible exact Sx | with_reducible apply Rd.al | with_reducible apply Rd.dr | with_reducible apply Rd.dr1)) hb
      replace Sy : Rd u12 a1 cap1 (ys) := Rd.nx (by repeat (first | with_reducible exact Sy | with_reducible apply Rd.al | with_reducible apply Rd.dr | with_reducible apply Rd.dr1)) hb
      replace Sz : Rd u12 a2 cap2 (zs) := Rd.nx (by repeat (first | with_reducible exact Sz | with_reducible apply Rd.al | with_reducible apply Rd.dr | with_reducible apply Rd.dr1)) hb
      replace Sq : Rd u12 pq qq (jq) := Rd.nx (by repeat (first | with_reducible exact Sq | with_reducible apply Rd.al | with_reducible apply Rd.dr | with_reducible apply Rd.dr1)) hb
      replace Sr : Rd u12 pr qr (jr) := Rd.nx (by repeat (first | with_reducible exact Sr | with_reducible apply Rd.al | with_reducible apply Rd.dr | with_reducible apply Rd.dr1)) hb
      replace Sv : Rd u12 pv qv (jv) := Rd.nx (by repeat (first | with_reducible exact Sv | with_reducible apply Rd.al | with_reducible apply Rd.dr | with_reducible apply Rd.dr1)) hb
      replace Sv2 : Rd u12 pv2 qv2 (jv2) := Rd.nx (by repeat (first | with_reducible exact Sv2 | with_reducible apply Rd.al | with_reducible apply Rd.dr | with_reducible apply Rd.dr1)) hb
      replace Sn : Rd u12 pn qn (jn) := Rd.nx (by repeat (first | with_reducible exact Sn | with_reducible apply Rd.al | with_reducible apply Rd.dr | with_reducible apply Rd.dr1)) hb
      replace Sk : Rd u12 pk qk (jk) := Rd.nx (by repeat (first | with_reducible exact Sk | with_reducible apply Rd.al | with_reducible apply Rd.dr | with_reducible apply Rd.dr1)) hb
      replace Sk2 : Rd u12 pk2 qk2 (jk2) := Rd.nx (by repeat (first | with_reducible exact Sk2 | with_reducible apply Rd.al | with_reducible apply Rd.dr | with_reducible apply Rd.dr1)) hb
      replace K : Kp w u12 := Kp.nx (by repeat (first | with_reducible exact K | with_reducible apply Kp.al | with_reducible apply Kp.dr | with_reducible apply Kp.dr1)) hb
      clear hb
      go_wp2_with fail
      refine (NR.zero (xs := zs) (by repeat (first | with_reducible exact Sz | with_reducible apply Rd.al | with_reducible apply Rd.dr | with_reducible apply Rd.dr1)) rfl (by omega) false (by have := HW.out; symm; rw [beq_eq_false_iff_ne]; exact this)).mono ?_; rintro e w' ⟨rfl, rfl⟩
      go_wp2_with fail
      go_ret
      exact ⟨rfl, Kp.below (by repeat (first | with_reducible exact K | with_reducible apply Kp.al | with_reducible apply Kp.dr | with_reducible apply Kp.dr1))⟩

/-! ### THE ROW's STEP: WRITTEN OUT: LEAVE IT -/
set_option maxRecDepth 100000 in
theorem lifted (os : Os) (started : os.Started) (H : Type) (enc : TypeId × Value → H) :
    ReturnsInHanded {} Try.checked os 10 .any (Rows.quoMultiplesSpec.pre6 enc Try.prog Try.f10 Rows.quoMultiplesRow.domain false) (Rows.quoMultiplesSpec.post enc Try.prog Try.f10 false true false false) := by
  refine returnsInHanded_of_change (C := Try.checked) own started (by kernel_rfl) Try.func10
    (ChangeSpec.witness6 (enc := enc) (C := Try.checked) false ⟨#[], #[.slice none 0 0, .slice none 0 0, .slice none 0 0], []⟩ 8 (by kernel_rfl) (by kernel_rfl) (by kernel_rfl) (by kernel_rfl)) ?_
  intro W base args ds gs before hval0 hW hcnd _
  have hval : ∀ (j : Nat) t v, Try.f10.params[j]? = some t → args[j]? = some v → Value.okWide Try.prog W .any base t v := hval0
  have hW' := hW
  obtain ⟨p, q, hA0, hV, rfl, hfz, hnd⟩ := hW
  have hA : DataW.TrodAll enc Try.prog W 0 (fun _ => true) true Try.f10.params.toList args.toList ds p := hA0
  rw [Try.params10] at hA hval
  obtain ⟨v0, vs0, d0, ds0, p0, q0, hargs, rfl, rfl, h0, r0⟩ := trodAll_cons hA
  obtain ⟨v1, vs1, d1, ds1, p1, q1, rfl, rfl, rfl, h1, r1⟩ := trodAll_cons r0
  obtain ⟨v2, vs2, d2, ds2, p2, q2, rfl, rfl, rfl, h2, r2⟩ := trodAll_cons r1
  obtain ⟨rfl, rfl, rfl⟩ := trodAll_nil r2
  obtain rfl : args = #[v0, v1, v2] := by cases args; simp_all
  obtain ⟨rfl, rfl⟩ := trodVars_none hV
  obtain ⟨a0, len0, cap0, rfl⟩ := okWide_slice Try.underlying23 (hval 0 23 v0 rfl rfl)
  have k0 := h0
  have lt0 : ∀ x ∈ p0, x.block < W.heap.size := by obtain ⟨m, hm⟩ := k0; exact DataW.trod_lt m _ _ _ hm
  obtain ⟨z0, w0⟩ : ∃ zs, IsRow .u64 W a0 len0 cap0 zs := by
    obtain ⟨fuel, hf⟩ := h0
    rcases open_ints Try.underlying23 Try.underlying36 (by kernel_rfl) hf with ⟨hcs, _⟩ | ⟨x, l, c, zs, hcs, _, hl, hm, hz, _, hcell, hwz⟩
    · simp [Value.cells] at hcs
      obtain ⟨rfl, rfl, rfl⟩ := hcs
      exact ⟨[], .inl ⟨rfl, rfl, rfl, rfl⟩⟩
    · simp [Value.cells] at hcs
      obtain ⟨rfl, rfl, rfl⟩ := hcs
      exact ⟨zs, .inr ⟨_, rfl, hl, hm, by simpa using hz, hcell, hwz⟩⟩
  obtain ⟨a1, len1, cap1, rfl⟩ := okWide_slice Try.underlying23 (hval 1 23 v1 rfl rfl)
  have k1 := h1
  have lt1 : ∀ x ∈ p1, x.block < W.heap.size := by obtain ⟨m, hm⟩ := k1; exact DataW.trod_lt m _ _ _ hm
  obtain ⟨z1, w1⟩ : ∃ zs, IsRow .u64 W a1 len1 cap1 zs := by
    obtain ⟨fuel, hf⟩ := h1
    rcases open_ints Try.underlying23 Try.underlying36 (by kernel_rfl) hf with ⟨hcs, _⟩ | ⟨x, l, c, zs, hcs, _, hl, hm, hz, _, hcell, hwz⟩
    · simp [Value.cells] at hcs
      obtain ⟨rfl, rfl, rfl⟩ := hcs
      exact ⟨[], .inl ⟨rfl, rfl, rfl, rfl⟩⟩
    · simp [Value.cells] at hcs
      obtain ⟨rfl, rfl, rfl⟩ := hcs
      exact ⟨zs, .inr ⟨_, rfl, hl, hm, by simpa using hz, hcell, hwz⟩⟩
  obtain ⟨a2, len2, cap2, rfl⟩ := okWide_slice Try.underlying23 (hval 2 23 v2 rfl rfl)
  have k2 := h2
  have lt2 : ∀ x ∈ p2, x.block < W.heap.size := by obtain ⟨m, hm⟩ := k2; exact DataW.trod_lt m _ _ _ hm
  obtain ⟨z2, w2⟩ : ∃ zs, IsRow .u64 W a2 len2 cap2 zs := by
    obtain ⟨fuel, hf⟩ := h2
    rcases open_ints Try.underlying23 Try.underlying36 (by kernel_rfl) hf with ⟨hcs, _⟩ | ⟨x, l, c, zs, hcs, _, hl, hm, hz, _, hcell, hwz⟩
    · simp [Value.cells] at hcs
      obtain ⟨rfl, rfl, rfl⟩ := hcs
      exact ⟨[], .inl ⟨rfl, rfl, rfl, rfl⟩⟩
    · simp [Value.cells] at hcs
      obtain ⟨rfl, rfl, rfl⟩ := hcs
      exact ⟨zs, .inr ⟨_, rfl, hl, hm, by simpa using hz, hcell, hwz⟩⟩
  clear hA0 hval0
  refine (walk a0 len0 cap0 z0 a1 len1 cap1 z1 a2 len2 cap2 z2 W w0 w1 w2).mono fun e W' ⟨he, bel⟩ => ?_
  subst he
  exact ⟨_, rfl, _, _, _, [], _, [], hW', trodAll_mk1 (shut_bool Try.underlying4 _), (trodAll_cons_mk (Below.trod laidOut (by kernel_rfl) (of_decide_eq_true (by kernel_rfl)) k0 bel lt0) (trodAll_cons_mk (Below.trod laidOut (by kernel_rfl) (of_decide_eq_true (by kernel_rfl)) k1 bel lt1) (trodAll_cons_mk (Below.trod laidOut (by kernel_rfl) (of_decide_eq_true (by kernel_rfl)) k2 bel lt2) trodAll_mk0))), rfl, bel.frame _, fun h => by cases h⟩

theorem over : Rows.quoMultiplesRow.holds Try.pinned (OpenSpec.ofChange Rows.quoMultiplesSpec) :=
  OpenClaim.holds_of_wide 10 Try.f10 rfl rfl rfl rfl rfl rfl rfl ⟨rfl, rfl, rfl, rfl, rfl⟩ rfl rfl rfl rfl rfl (by kernel_rfl) Try.func10 (by kernel_rfl)
    (of_decide_eq_true (by kernel_rfl)) (by unfold Func.isWrapper; first | (rw [if_pos (by decide +kernel)]; kernel_rfl) | (rw [if_neg (by decide +kernel)]; exact ⟨rfl, rfl⟩))
    (fun os started H enc _ => lifted os started H enc)

/-- ████ THE STATEMENT ████ -/
theorem proved : Rows.QuoMultiplesSaid := over
#print axioms proved
end Go.Proofs.Ytepndjcncmkkkaa.quoMultiples
