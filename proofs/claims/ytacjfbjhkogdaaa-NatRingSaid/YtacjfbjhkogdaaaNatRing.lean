/- The statement NatRing: sums and products hang neither on the row nor on the brackets; a product by a sum is the sum of the products; 0 changes no sum, 1 no product. No condition. -/
import Derived.Test.YtacjfbjhkogdaaaRows
import Derived.WalkKit
import Derived.ProofKit
import Derived.OpenShut
import Derived.Test.YtacjfbjhkogdaaaNatLaw
import Derived.ShutString
import Derived.ChangeOld
import Derived.Below
namespace Go.Proofs.Ytacjfbjhkogdaaa.natRing
open Go.ChangeShapes Go.WideShapes Go.ChangeAt Go.RowKit
open Go.Proofs
open Go.ChangeMaps (open_string shut_string)
set_option linter.unusedVariables false

theorem own : ownKnob Try.prog.godebug = none := by kernel_rfl
theorem laidOut : laidOutB Try.prog = true := by kernel_rfl

/-- WHAT THE WALK IS TOLD OF A SLICE OF INTEGERS THAT CAME IN: it is nil; or it leads to a row of 'cap' cells, the numbers 'zs' (the first 'len' are its elements, the rest its spare room), each fitting its kind. -/
def IsRow (k : IntKind) (w : World) (a : Option Addr) (len cap : Nat) (zs : List Int) : Prop :=
  (a = none ∧ len = 0 ∧ cap = 0 ∧ zs = []) ∨
  ∃ x, a = some x ∧ len ≤ cap ∧ cap ≤ maxLen ∧ zs.length = cap ∧ (∀ i, i < zs.length → w.cell? (x.add i) = some (.int k (zs.getD i 0))) ∧ ∀ n ∈ zs, (Lit.int k n).wf = true

open Go.Proofs.NP Go.Proofs.SL Go.Proofs.NR Go.Lib
set_option linter.unusedSimpArgs false

/-! ### STEP 1: THE WALK: the Go text returns true, AND WRITES NOTHING THAT WAS THERE: 'Below w.heap.size w w'' (Derived/Below.lean: '.refl', '.alloc', '.drew', '.setCell' at a new block, '.trans'). Open each 'IsRow' by 'rcases' AHEAD of 'go_enter'; part every test ahead of the walk. -/
set_option maxHeartbeats 8000000 in
set_option maxRecDepth 100000 in
theorem walk (a0 : Option Addr) (len0 cap0 : Nat) (z0 : List Int) (a1 : Option Addr) (len1 cap1 : Nat) (z1 : List Int) (a2 : Option Addr) (len2 cap2 : Nat) (z2 : List Int) (w : World) (w0 : IsRow .u64 w a0 len0 cap0 z0) (w1 : IsRow .u64 w a1 len1 cap1 z1) (w2 : IsRow .u64 w a2 len2 cap2 z2) :
    Calls Try.prog 5 #[.slice a0 len0 cap0, .slice a1 len1 cap1, .slice a2 len2 cap2] w fun e w' => e = .returned (.bool true) ∧ Below w.heap.size w w' := by
  obtain ⟨xs, rfl, Sx⟩ := LN.rows w0
  obtain ⟨ys, rfl, Sy⟩ := LN.rows w1
  obtain ⟨zs, rfl, Sz⟩ := LN.rows w2
  have K : Kp w w := Kp.refl w
  clear w0 w1 w2
  by_cases hs : ¬ (xs.length ≤ 24 ∧ ys.length ≤ 24 ∧ zs.length ≤ 24)
  · have hz : true = (decide (24 < xs.length) || (decide (24 < ys.length) || decide (24 < zs.length))) := by simp; omega
    clear hs
    have HZ := Lib.hid hz; clear hz
    go_enter Try.func5, Try.ntmps5
    go_wp2_with fail
    refine (LN.long3 (by simp) true HZ).mono ?_; rintro e w' ⟨rfl, rfl⟩
    go_wp2_with fail
    refine (LN.awake _).mono ?_; rintro e u1 ⟨rfl, hb⟩
    replace Sx : Rd u1 a0 cap0 (xs) := Rd.nx (by repeat (first | with_reducible exact Sx | with_reducible apply Rd.al | with_reducible apply Rd.dr | with_reducible apply Rd.dr1)) hb
    replace Sy : Rd u1 a1 cap1 (ys) := Rd.nx (by repeat (first | with_reducible exact Sy | with_reducible apply Rd.al | with_reducible apply Rd.dr | with_reducible apply Rd.dr1)) hb
    replace Sz : Rd u1 a2 cap2 (zs) := Rd.nx (by repeat (first | with_reducible exact Sz | with_reducible apply Rd.al | with_reducible apply Rd.dr | with_reducible apply Rd.dr1)) hb
    replace K : Kp w u1 := Kp.nx (by repeat (first | with_reducible exact K | with_reducible apply Kp.al | with_reducible apply Kp.dr | with_reducible apply Kp.dr1)) hb
    clear hb
    go_wp2_with fail
    go_ret
    exact ⟨rfl, Kp.below (by repeat (first | with_reducible exact K | with_reducible apply Kp.al | with_reducible apply Kp.dr | with_reducible apply Kp.dr1))⟩
  obtain ⟨n0, n1, n2⟩ : xs.length ≤ 24 ∧ ys.length ≤ 24 ∧ zs.length ≤ 24 := by omega
  clear hs
  have fx : Fits (V xs) 24 := Fits.of Sx.ws (by omega)
  have fy : Fits (V ys) 24 := Fits.of Sy.ws (by omega)
  have fz : Fits (V zs) 24 := Fits.of Sz.ws (by omega)
  have hz : false = (decide (24 < xs.length) || (decide (24 < ys.length) || decide (24 < zs.length))) := by simp; omega
  have HZ := Lib.hid hz; clear hz
  go_enter Try.func5, Try.ntmps5
  go_wp2_with fail
  refine (LN.long3 (by simp) false HZ).mono ?_; rintro e w' ⟨rfl, rfl⟩
  go_wp2_with fail
  refine (LN.awake _).mono ?_; rintro e u1 ⟨rfl, hb⟩
  replace Sx : Rd u1 a0 cap0 (xs) := Rd.nx (by repeat (first | with_reducible exact Sx | with_reducible apply Rd.al | with_reducible apply Rd.dr | with_reducible apply Rd.dr1)) hb
  replace Sy : Rd u1 a1 cap1 (ys) := Rd.nx (by repeat (first | with_reducible exact Sy | with_reducible apply Rd.al | with_reducible apply Rd.dr | with_reducible apply Rd.dr1)) hb
  replace Sz : Rd u1 a2 cap2 (zs) := Rd.nx (by repeat (first | with_reducible exact Sz | with_reducible apply Rd.al | with_reducible apply Rd.dr | with_reducible apply Rd.dr1)) hb
  replace K : Kp w u1 := Kp.nx (by repeat (first | with_reducible exact K | with_reducible apply Kp.al | with_reducible apply Kp.dr | with_reducible apply Kp.dr1)) hb
  clear hb
  have So : Rd (u1.alloc (.cells #[.int .u64 1] 34)) (some ⟨u1.heap.size, 0, none⟩) 1 [1] := Rd.litn [1] _ (ws_of _ (by decide +kernel)) rfl (by decide) rfl
  have No : Hid (V [1] = 1) := Lib.hid (by decide +kernel)
  obtain ⟨ja, hja⟩ : ∃ z : List Nat, z = L ((V xs) + (V ys)) := ⟨_, rfl⟩
  have Na : Hid (V ja = (V xs) + (V ys)) := Lib.hid (by rw [hja, V_L])
  have Ha := Lib.hid hja; clear hja
  go_wp2_with fail
  refine (NR.add (xs := xs) (ys := ys) (zs := ja) (by repeat (first | with_reducible exact Sx | with_reducible apply Rd.al | with_reducible apply Rd.dr | with_reducible apply Rd.dr1)) (by repeat (first | with_reducible exact Sy | with_reducible apply Rd.al | with_reducible apply Rd.dr | with_reducible apply Rd.dr1)) rfl rfl (by omega) (by omega)  (Ha.out.trans (congrArg L (by first | with_reducible rfl | simp only [LN.V_nil, LN.V_one])))).mono ?_; rintro e u2 ⟨pa, qa, rfl, ho, hb⟩
  replace Sx : Rd u2 a0 cap0 (xs) := Rd.nx (by repeat (first | with_reducible exact Sx | with_reducible apply Rd.al | with_reducible apply Rd.dr | with_reducible apply Rd.dr1)) hb
  replace Sy : Rd u2 a1 cap1 (ys) := Rd.nx (by repeat (first | with_reducible exact Sy | with_reducible apply Rd.al | with_reducible apply Rd.dr | with_reducible apply Rd.dr1)) hb
  replace Sz : Rd u2 a2 cap2 (zs) := Rd.nx (by repeat (first | with_reducible exact Sz | with_reducible apply Rd.al | with_reducible apply Rd.dr | with_reducible apply Rd.dr1)) hb
  replace So : Rd u2 (some ⟨u1.heap.size, 0, none⟩) 1 ([1]) := Rd.nx (by repeat (first | with_reducible exact So | with_reducible apply Rd.al | with_reducible apply Rd.dr | with_reducible apply Rd.dr1)) hb
  replace K : Kp w u2 := Kp.nx (by repeat (first | with_reducible exact K | with_reducible apply Kp.al | with_reducible apply Kp.dr | with_reducible apply Kp.dr1)) hb
  have Sa : Rd u2 pa qa (ja) := ho.rd
  clear ho hb
  obtain ⟨jb, hjb⟩ : ∃ z : List Nat, z = L ((V ys) + (V xs)) := ⟨_, rfl⟩
  have Nb : Hid (V jb = (V ys) + (V xs)) := Lib.hid (by rw [hjb, V_L])
  have Hb := Lib.hid hjb; clear hjb
  go_wp2_with fail
  refine (NR.add (xs := ys) (ys := xs) (zs := jb) (by repeat (first | with_reducible exact Sy | with_reducible apply Rd.al | with_reducible apply Rd.dr | with_reducible apply Rd.dr1)) (by repeat (first | with_reducible exact Sx | with_reducible apply Rd.al | with_reducible apply Rd.dr | with_reducible apply Rd.dr1)) rfl rfl (by omega) (by omega)  (Hb.out.trans (congrArg L (by first | with_reducible rfl | simp only [LN.V_nil, LN.V_one])))).mono ?_; rintro e u3 ⟨pb, qb, rfl, ho, hb⟩
  replace Sx : Rd u3 a0 cap0 (xs) := Rd.nx (by repeat (first | with_reducible exact Sx | with_reducible apply Rd.al | with_reducible apply Rd.dr | with_reducible apply Rd.dr1)) hb
  replace Sy : Rd u3 a1 cap1 (ys) := Rd.nx (by repeat (first | with_reducible exact Sy | with_reducible apply Rd.al | with_reducible apply Rd.dr | with_reducible apply Rd.dr1)) hb
  replace Sz : Rd u3 a2 cap2 (zs) := Rd.nx (by repeat (first | with_reducible exact Sz | with_reducible apply Rd.al | with_reducible apply Rd.dr | with_reducible apply Rd.dr1)) hb
  replace So : Rd u3 (some ⟨u1.heap.size, 0, none⟩) 1 ([1]) := Rd.nx (by repeat (first | with_reducible exact So | with_reducible apply Rd.al | with_reducible apply Rd.dr | with_reducible apply Rd.dr1)) hb
  replace Sa : Rd u3 pa qa (ja) := Rd.nx (by repeat (first | with_reducible exact Sa | with_reducible apply Rd.al | with_reducible apply Rd.dr | with_reducible apply Rd.dr1)) hb
  replace K : Kp w u3 := Kp.nx (by repeat (first | with_reducible exact K | with_reducible apply Kp.al | with_reducible apply Kp.dr | with_reducible apply Kp.dr1)) hb
  have Sb : Rd u3 pb qb (jb) := ho.rd
  clear ho hb
  go_wp2_with fail
  refine (NR.same_yes (xs := ja) (ys := jb) (by repeat (first | with_reducible exact Sa | with_reducible apply Rd.al | with_reducible apply Rd.dr | with_reducible apply Rd.dr1)) (by repeat (first | with_reducible exact Sb | with_reducible apply Rd.al | with_reducible apply Rd.dr | with_reducible apply Rd.dr1)) rfl rfl (Nat.le_trans (NR.len_of Ha.out (fx.add fy)) (by decide)) (Ha.out.trans ((congrArg L (Nat.add_comm _ _)).trans Hb.out.symm))).mono ?_; rintro e u4 ⟨rfl, hb⟩
  replace Sx : Rd u4 a0 cap0 (xs) := Rd.nx (by repeat (first | with_reducible exact Sx | with_reducible apply Rd.al | with_reducible apply Rd.dr | with_reducible apply Rd.dr1)) hb
  replace Sy : Rd u4 a1 cap1 (ys) := Rd.nx (by repeat (first | with_reducible exact Sy | with_reducible apply Rd.al | with_reducible apply Rd.dr | with_reducible apply Rd.dr1)) hb
  replace Sz : Rd u4 a2 cap2 (zs) := Rd.nx (by repeat (first | with_reducible exact Sz | with_reducible apply Rd.al | with_reducible apply Rd.dr | with_reducible apply Rd.dr1)) hb
  replace So : Rd u4 (some ⟨u1.heap.size, 0, none⟩) 1 ([1]) := Rd.nx (by repeat (first | with_reducible exact So | with_reducible apply Rd.al | with_reducible apply Rd.dr | with_reducible apply Rd.dr1)) hb
  replace Sa : Rd u4 pa qa (ja) := Rd.nx (by repeat (first | with_reducible exact Sa | with_reducible apply Rd.al | with_reducible apply Rd.dr | with_reducible apply Rd.dr1)) hb
  replace Sb : Rd u4 pb qb (jb) := Rd.nx (by repeat (first | with_reducible exact Sb | with_reducible apply Rd.al | with_reducible apply Rd.dr | with_reducible apply Rd.dr1)) hb
  replace K : Kp w u4 := Kp.nx (by repeat (first | with_reducible exact K | with_reducible apply Kp.al | with_reducible apply Kp.dr | with_reducible apply Kp.dr1)) hb
  clear hb
  clear Sa
  clear Sb
  obtain ⟨ja1, hja1⟩ : ∃ z : List Nat, z = L ((V xs) * (V ys)) := ⟨_, rfl⟩
  have Na1 : Hid (V ja1 = (V xs) * (V ys)) := Lib.hid (by rw [hja1, V_L])
  have Ha1 := Lib.hid hja1; clear hja1
  go_wp2_with fail
  refine (NR.mul (xs := xs) (ys := ys) (zs := ja1) (by repeat (first | with_reducible exact Sx | with_reducible apply Rd.al | with_reducible apply Rd.dr | with_reducible apply Rd.dr1)) (by repeat (first | with_reducible exact Sy | with_reducible apply Rd.al | with_reducible apply Rd.dr | with_reducible apply Rd.dr1)) rfl rfl (by omega) (by omega)  (Ha1.out.trans (congrArg L (by first | with_reducible rfl | simp only [LN.V_nil, LN.V_one])))).mono ?_; rintro e u5 ⟨pa1, qa1, rfl, ho, hb⟩
  replace Sx : Rd u5 a0 cap0 (xs) := Rd.nx (by repeat (first | with_reducible exact Sx | with_reducible apply Rd.al | with_reducible apply Rd.dr | with_reducible apply Rd.dr1)) hb
  replace Sy : Rd u5 a1 cap1 (ys) := Rd.nx (by repeat (first | with_reducible exact Sy | with_reducible apply Rd.al | with_reducible apply Rd.dr | with_reducible apply Rd.dr1)) hb
  replace Sz : Rd u5 a2 cap2 (zs) := Rd.nx (by repeat (first | with_reducible exact Sz | with_reducible apply Rd.al | with_reducible apply Rd.dr | with_reducible apply Rd.dr1)) hb
  replace So : Rd u5 (some ⟨u1.heap.size, 0, none⟩) 1 ([1]) := Rd.nx (by repeat (first | with_reducible exact So | with_reducible apply Rd.al | with_reducible apply Rd.dr | with_reducible apply Rd.dr1)) hb
  replace K : Kp w u5 := Kp.nx (by repeat (first | with_reducible exact K | with_reducible apply Kp.al | with_reducible apply Kp.dr | with_reducible apply Kp.dr1)) hb
  have Sa1 : Rd u5 pa1 qa1 (ja1) := ho.rd
  clear ho hb
  obtain ⟨jb1, hjb1⟩ : ∃ z : List Nat, z = L ((V ys) * (V xs)) := ⟨_, rfl⟩
  have Nb1 : Hid (V jb1 = (V ys) * (V xs)) := Lib.hid (by rw [hjb1, V_L])
  have Hb1 := Lib.hid hjb1; clear hjb1
  go_wp2_with fail
  refine (NR.mul (xs := ys) (ys := xs) (zs := jb1) (by repeat (first | with_reducible exact Sy | with_reducible apply Rd.al | with_reducible apply Rd.dr | with_reducible apply Rd.dr1)) (by repeat (first | with_reducible exact Sx | with_reducible apply Rd.al | with_reducible apply Rd.dr | with_reducible apply Rd.dr1)) rfl rfl (by omega) (by omega)  (Hb1.out.trans (congrArg L (by first | with_reducible rfl | simp only [LN.V_nil, LN.V_one])))).mono ?_; rintro e u6 ⟨pb1, qb1, rfl, ho, hb⟩
  replace Sx : Rd u6 a0 cap0 (xs) := Rd.nx (by repeat (first | with_reducible exact Sx | with_reducible apply Rd.al | with_reducible apply Rd.dr | with_reducible apply Rd.dr1)) hb
  replace Sy : Rd u6 a1 cap1 (ys) := Rd.nx (by repeat (first | with_reducible exact Sy | with_reducible apply Rd.al | with_reducible apply Rd.dr | with_reducible apply Rd.dr1)) hb
  replace Sz : Rd u6 a2 cap2 (zs) := Rd.nx (by repeat (first | with_reducible exact Sz | with_reducible apply Rd.al | with_reducible apply Rd.dr | with_reducible apply Rd.dr1)) hb
  replace So : Rd u6 (some ⟨u1.heap.size, 0, none⟩) 1 ([1]) := Rd.nx (by repeat (first | with_reducible exact So | with_reducible apply Rd.al | with_reducible apply Rd.dr | with_reducible apply Rd.dr1)) hb
  replace Sa1 : Rd u6 pa1 qa1 (ja1) := Rd.nx (by repeat (first | with_reducible exact Sa1 | with_reducible apply Rd.al | with_reducible apply Rd.dr | with_reducible apply Rd.dr1)) hb
  replace K : Kp w u6 := Kp.nx (by repeat (first | with_reducible exact K | with_reducible apply Kp.al | with_reducible apply Kp.dr | with_reducible apply Kp.dr1)) hb
  have Sb1 : Rd u6 pb1 qb1 (jb1) := ho.rd
  clear ho hb
  go_wp2_with fail
  refine (NR.same_yes (xs := ja1) (ys := jb1) (by repeat (first | with_reducible exact Sa1 | with_reducible apply Rd.al | with_reducible apply Rd.dr | with_reducible apply Rd.dr1)) (by repeat (first | with_reducible exact Sb1 | with_reducible apply Rd.al | with_reducible apply Rd.dr | with_reducible apply Rd.dr1)) rfl rfl (Nat.le_trans (NR.len_of Ha1.out (fx.mul fy)) (by decide)) (Ha1.out.trans ((congrArg L (Nat.mul_comm _ _)).trans Hb1.out.symm))).mono ?_; rintro e u7 ⟨rfl, hb⟩
  replace Sx : Rd u7 a0 cap0 (xs) := Rd.nx (by repeat (first | with_reducible exact Sx | with_reducible apply Rd.al | with_reducible apply Rd.dr | with_reducible apply Rd.dr1)) hb
  replace Sy : Rd u7 a1 cap1 (ys) := Rd.nx (by repeat (first | with_reducible exact Sy | with_reducible apply Rd.al | with_reducible apply Rd.dr | with_reducible apply Rd.dr1)) hb
  replace Sz : Rd u7 a2 cap2 (zs) := Rd.nx (by repeat (first | with_reducible exact Sz | with_reducible apply Rd.al | with_reducible apply Rd.dr | with_reducible apply Rd.dr1)) hb
  replace So : Rd u7 (some ⟨u1.heap.size, 0, none⟩) 1 ([1]) := Rd.nx (by repeat (first | with_reducible exact So | with_reducible apply Rd.al | with_reducible apply Rd.dr | with_reducible apply Rd.dr1)) hb
  replace Sa1 : Rd u7 pa1 qa1 (ja1) := Rd.nx (by repeat (first | with_reducible exact Sa1 | with_reducible apply Rd.al | with_reducible apply Rd.dr | with_reducible apply Rd.dr1)) hb
  replace Sb1 : Rd u7 pb1 qb1 (jb1) := Rd.nx (by repeat (first | with_reducible exact Sb1 | with_reducible apply Rd.al | with_reducible apply Rd.dr | with_reducible apply Rd.dr1)) hb
  replace K : Kp w u7 := Kp.nx (by repeat (first | with_reducible exact K | with_reducible apply Kp.al | with_reducible apply Kp.dr | with_reducible apply Kp.dr1)) hb
  clear hb
  clear Sa1
  clear Sb1
  obtain ⟨ja2, hja2⟩ : ∃ z : List Nat, z = L ((V xs) + (V ys)) := ⟨_, rfl⟩
  have Na2 : Hid (V ja2 = (V xs) + (V ys)) := Lib.hid (by rw [hja2, V_L])
  have Ha2 := Lib.hid hja2; clear hja2
  go_wp2_with fail
  refine (NR.add (xs := xs) (ys := ys) (zs := ja2) (by repeat (first | with_reducible exact Sx | with_reducible apply Rd.al | with_reducible apply Rd.dr | with_reducible apply Rd.dr1)) (by repeat (first | with_reducible exact Sy | with_reducible apply Rd.al | with_reducible apply Rd.dr | with_reducible apply Rd.dr1)) rfl rfl (by omega) (by omega)  (Ha2.out.trans (congrArg L (by first | with_reducible rfl | simp only [LN.V_nil, LN.V_one])))).mono ?_; rintro e u8 ⟨pa2, qa2, rfl, ho, hb⟩
  replace Sx : Rd u8 a0 cap0 (xs) := Rd.nx (by repeat (first | with_reducible exact Sx | with_reducible apply Rd.al | with_reducible apply Rd.dr | with_reducible apply Rd.dr1)) hb
  replace Sy : Rd u8 a1 cap1 (ys) := Rd.nx (by repeat (first | with_reducible exact Sy | with_reducible apply Rd.al | with_reducible apply Rd.dr | with_reducible apply Rd.dr1)) hb
  replace Sz : Rd u8 a2 cap2 (zs) := Rd.nx (by repeat (first | with_reducible exact Sz | with_reducible apply Rd.al | with_reducible apply Rd.dr | with_reducible apply Rd.dr1)) hb
  replace So : Rd u8 (some ⟨u1.heap.size, 0, none⟩) 1 ([1]) := Rd.nx (by repeat (first | with_reducible exact So | with_reducible apply Rd.al | with_reducible apply Rd.dr | with_reducible apply Rd.dr1)) hb
  replace K : Kp w u8 := Kp.nx (by repeat (first | with_reducible exact K | with_reducible apply Kp.al | with_reducible apply Kp.dr | with_reducible apply Kp.dr1)) hb
  have Sa2 : Rd u8 pa2 qa2 (ja2) := ho.rd
  clear ho hb
  obtain ⟨jb2, hjb2⟩ : ∃ z : List Nat, z = L (((V xs) + (V ys)) + (V zs)) := ⟨_, rfl⟩
  have Nb2 : Hid (V jb2 = ((V xs) + (V ys)) + (V zs)) := Lib.hid (by rw [hjb2, V_L])
  have Hb2 := Lib.hid hjb2; clear hjb2
  go_wp2_with fail
  refine (NR.add (xs := ja2) (ys := zs) (zs := jb2) (by repeat (first | with_reducible exact Sa2 | with_reducible apply Rd.al | with_reducible apply Rd.dr | with_reducible apply Rd.dr1)) (by repeat (first | with_reducible exact Sz | with_reducible apply Rd.al | with_reducible apply Rd.dr | with_reducible apply Rd.dr1)) rfl rfl (Nat.le_trans (NR.len_of Ha2.out (fx.add fy)) (by decide)) (by omega)  (Hb2.out.trans (congrArg L (by first | with_reducible rfl | simp only [Na2.out, LN.V_nil, LN.V_one])))).mono ?_; rintro e u9 ⟨pb2, qb2, rfl, ho, hb⟩
  replace Sx : Rd u9 a0 cap0 (xs) := Rd.nx (by repeat (first | with_reducible exact Sx | with_reducible apply Rd.al | with_reducible apply Rd.dr | with_reducible apply Rd.dr1)) hb
  replace Sy : Rd u9 a1 cap1 (ys) := Rd.nx (by repeat (first | with_reducible exact Sy | with_reducible apply Rd.al | with_reducible apply Rd.dr | with_reducible apply Rd.dr1)) hb
  replace Sz : Rd u9 a2 cap2 (zs) := Rd.nx (by repeat (first | with_reducible exact Sz | with_reducible apply Rd.al | with_reducible apply Rd.dr | with_reducible apply Rd.dr1)) hb
  replace So : Rd u9 (some ⟨u1.heap.size, 0, none⟩) 1 ([1]) := Rd.nx (by repeat (first | with_reducible exact So | with_reducible apply Rd.al | with_reducible apply Rd.dr | with_reducible apply Rd.dr1)) hb
  replace Sa2 : Rd u9 pa2 qa2 (ja2) := Rd.nx (by repeat (first | with_reducible exact Sa2 | with_reducible apply Rd.al | with_reducible apply Rd.dr | with_reducible apply Rd.dr1)) hb
  replace K : Kp w u9 := Kp.nx (by repeat (first | with_reducible exact K | with_reducible apply Kp.al | with_reducible apply Kp.dr | with_reducible apply Kp.dr1)) hb
  have Sb2 : Rd u9 pb2 qb2 (jb2) := ho.rd
  clear ho hb
  obtain ⟨jc2, hjc2⟩ : ∃ z : List Nat, z = L ((V ys) + (V zs)) := ⟨_, rfl⟩
  have Nc2 : Hid (V jc2 = (V ys) + (V zs)) := Lib.hid (by rw [hjc2, V_L])
  have Hc2 := Lib.hid hjc2; clear hjc2
  go_wp2_with fail
  refine (NR.add (xs := ys) (ys := zs) (zs := jc2) (by repeat (first | with_reducible exact Sy | with_reducible apply Rd.al | with_reducible apply Rd.dr | with_reducible apply Rd.dr1)) (by repeat (first | with_reducible exact Sz | with_reducible apply Rd.al | with_reducible apply Rd.dr | with_reducible apply Rd.dr1)) rfl rfl (by omega) (by omega)  (Hc2.out.trans (congrArg L (by first | with_reducible rfl | simp only [LN.V_nil, LN.V_one])))).mono ?_; rintro e u10 ⟨pc2, qc2, rfl, ho, hb⟩
  replace Sx : Rd u10 a0 cap0 (xs) := Rd.nx (by repeat (first | with_reducible exact Sx | with_reducible apply Rd.al | with_reducible apply Rd.dr | with_reducible apply Rd.dr1)) hb
  replace Sy : Rd u10 a1 cap1 (ys) := Rd.nx (by repeat (first | with_reducible exact Sy | with_reducible apply Rd.al | with_reducible apply Rd.dr | with_reducible apply Rd.dr1)) hb
  replace Sz : Rd u10 a2 cap2 (zs) := Rd.nx (by repeat (first | with_reducible exact Sz | with_reducible apply Rd.al | with_reducible apply Rd.dr | with_reducible apply Rd.dr1)) hb
  replace So : Rd u10 (some ⟨u1.heap.size, 0, none⟩) 1 ([1]) := Rd.nx (by repeat (first | with_reducible exact So | with_reducible apply Rd.al | with_reducible apply Rd.dr | with_reducible apply Rd.dr1)) hb
  replace Sa2 : Rd u10 pa2 qa2 (ja2) := Rd.nx (by repeat (first | with_reducible exact Sa2 | with_reducible apply Rd.al | with_reducible apply Rd.dr | with_reducible apply Rd.dr1)) hb
  replace Sb2 : Rd u10 pb2 qb2 (jb2) := Rd.nx (by repeat (first | with_reducible exact Sb2 | with_reducible apply Rd.al | with_reducible apply Rd.dr | with_reducible apply Rd.dr1)) hb
  replace K : Kp w u10 := Kp.nx (by repeat (first | with_reducible exact K | with_reducible apply Kp.al | with_reducible apply Kp.dr | with_reducible apply Kp.dr1)) hb
  have Sc2 : Rd u10 pc2 qc2 (jc2) := ho.rd
  clear ho hb
  obtain ⟨jd2, hjd2⟩ : ∃ z : List Nat, z = L ((V xs) + ((V ys) + (V zs))) := ⟨_, rfl⟩
  have Nd2 : Hid (V jd2 = (V xs) + ((V ys) + (V zs))) := Lib.hid (by rw [hjd2, V_L])
  have Hd2 := Lib.hid hjd2; clear hjd2
  go_wp2_with fail
  refine (NR.add (xs := xs) (ys := jc2) (zs := jd2) (by repeat (first | with_reducible exact Sx | with_reducible apply Rd.al | with_reducible apply Rd.dr | with_reducible apply Rd.dr1)) (by repeat (first | with_reducible exact Sc2 | with_reducible apply Rd.al | with_reducible apply Rd.dr | with_reducible apply Rd.dr1)) rfl rfl (by omega) (Nat.le_trans (NR.len_of Hc2.out (fy.add fz)) (by decide))  (Hd2.out.trans (congrArg L (by first | with_reducible rfl | simp only [Nc2.out, LN.V_nil, LN.V_one])))).mono ?_; rintro e u11 ⟨pd2, qd2, rfl, ho, hb⟩
  replace Sx : Rd u11 a0 cap0 (xs) := Rd.nx (by repeat (first | with_reducible exact Sx | with_reducible apply Rd.al | with_reducible apply Rd.dr | with_reducible apply Rd.dr1)) hb
  replace Sy : Rd u11 a1 cap1 (ys) := Rd.nx (by repeat (first | with_reducible exact Sy | with_reducible apply Rd.al | with_reducible apply Rd.dr | with_reducible apply Rd.dr1)) hb
  replace Sz : Rd u11 a2 cap2 (zs) := Rd.nx (by repeat (first | with_reducible exact Sz | with_reducible apply Rd.al | with_reducible apply Rd.dr | with_reducible apply Rd.dr1)) hb
  replace So : Rd u11 (some ⟨u1.heap.size, 0, none⟩) 1 ([1]) := Rd.nx (by repeat (first | with_reducible exact So | with_reducible apply Rd.al | with_reducible apply Rd.dr | with_reducible apply Rd.dr1)) hb
  replace Sa2 : Rd u11 pa2 qa2 (ja2) := Rd.nx (by repeat (first | with_reducible exact Sa2 | with_reducible apply Rd.al | with_reducible apply Rd.dr | with_reducible apply Rd.dr1)) hb
  replace Sb2 : Rd u11 pb2 qb2 (jb2) := Rd.nx (by repeat (first | with_reducible exact Sb2 | with_reducible apply Rd.al | with_reducible apply Rd.dr | with_reducible apply Rd.dr1)) hb
  replace Sc2 : Rd u11 pc2 qc2 (jc2) := Rd.nx (by repeat (first | with_reducible exact Sc2 | with_reducible apply Rd.al | with_reducible apply Rd.dr | with_reducible apply Rd.dr1)) hb
  replace K : Kp w u11 := Kp.nx (by repeat (first | with_reducible exact K | with_reducible apply Kp.al | with_reducible apply Kp.dr | with_reducible apply Kp.dr1)) hb
  have Sd2 : Rd u11 pd2 qd2 (jd2) := ho.rd
  clear ho hb
  go_wp2_with fail
  refine (NR.same_yes (xs := jb2) (ys := jd2) (by repeat (first | with_reducible exact Sb2 | with_reducible apply Rd.al | with_reducible apply Rd.dr | with_reducible apply Rd.dr1)) (by repeat (first | with_reducible exact Sd2 | with_reducible apply Rd.al | with_reducible apply Rd.dr | with_reducible apply Rd.dr1)) rfl rfl (Nat.le_trans (NR.len_of Hb2.out ((fx.add fy).add fz)) (by decide)) (Hb2.out.trans ((congrArg L (Nat.add_assoc _ _ _)).trans Hd2.out.symm))).mono ?_; rintro e u12 ⟨rfl, hb⟩
  replace Sx : Rd u12 a0 cap0 (xs) := Rd.nx (by repeat (first | with_reducible exact Sx | with_reducible apply Rd.al | with_reducible apply Rd.dr | with_reducible apply Rd.dr1)) hb
  replace Sy : Rd u12 a1 cap1 (ys) := Rd.nx (by repeat (first | with_reducible exact Sy | with_reducible apply Rd.al | with_reducible apply Rd.dr | with_reducible apply Rd.dr1)) hb
  replace Sz : Rd u12 a2 cap2 (zs) := Rd.nx (by repeat (first | with_reducible exact Sz | with_reducible apply Rd.al | with_reducible apply Rd.dr | with_reducible apply Rd.dr1)) hb
  replace So : Rd u12 (some ⟨u1.heap.size, 0, none⟩) 1 ([1]) := Rd.nx (by repeat (first | with_reducible exact So | with_reducible apply Rd.al | with_reducible apply Rd.dr | with_reducible apply Rd.dr1)) hb
  replace Sa2 : Rd u12 pa2 qa2 (ja2) := Rd.nx (by repeat (first | with_reducible exact Sa2 | with_reducible apply Rd.al | with_reducible apply Rd.dr | with_reducible apply Rd.dr1)) hb
  replace Sb2 : Rd u12 pb2 qb2 (jb2) := Rd.nx (by repeat (first | with_reducible exact Sb2 | with_reducible apply Rd.al | with_reducible apply Rd.dr | with_reducible apply Rd.dr1)) hb
  replace Sc2 : Rd u12 pc2 qc2 (jc2) := Rd.nx (by repeat (first | with_reducible exact Sc2 | with_reducible apply Rd.al | with_reducible apply Rd.dr | with_reducible apply Rd.dr1)) hb
  replace Sd2 : Rd u12 pd2 qd2 (jd2) := Rd.nx (by repeat (first | with_reducible exact Sd2 | with_reducible apply Rd.al | with_reducible apply Rd.dr | with_reducible apply Rd.dr1)) hb
  replace K : Kp w u12 := Kp.nx (by repeat (first | with_reducible exact K | with_reducible apply Kp.al | with_reducible apply Kp.dr | with_reducible apply Kp.dr1)) hb
  clear hb
  clear Sa2
  clear Sb2
  clear Sc2
  clear Sd2
  obtain ⟨ja3, hja3⟩ : ∃ z : List Nat, z = L ((V xs) * (V ys)) := ⟨_, rfl⟩
  have Na3 : Hid (V ja3 = (V xs) * (V ys)) := Lib.hid (by rw [hja3, V_L])
  have Ha3 := Lib.hid hja3; clear hja3
  go_wp2_with fail
  refine (NR.mul (xs := xs) (ys := ys) (zs := ja3) (by repeat (first | with_reducible exact Sx | with_reducible apply Rd.al | with_reducible apply Rd.dr | with_reducible apply Rd.dr1)) (by repeat (first | with_reducible exact Sy | with_reducible apply Rd.al | with_reducible apply Rd.dr | with_reducible apply Rd.dr1)) rfl rfl (by omega) (by omega)  (Ha3.out.trans (congrArg L (by first | with_reducible rfl | simp only [LN.V_nil, LN.V_one])))).mono ?_; rintro e u13 ⟨pa3, qa3, rfl, ho, hb⟩
  replace Sx : Rd u13 a0 cap0 (xs) := Rd.nx (by repeat (first | with_reducible exact Sx | with_reducible apply Rd.al | with_reducible apply Rd.dr | with_reducible apply Rd.dr1)) hb
  replace Sy : Rd u13 a1 cap1 (ys) := Rd.nx (by repeat (first | with_reducible exact Sy | with_reducible apply Rd.al | with_reducible apply Rd.dr | with_reducible apply Rd.dr1)) hb
  replace Sz : Rd u13 a2 cap2 (zs) := Rd.nx (by repeat (first | with_reducible exact Sz | with_reducible apply Rd.al | with_reducible apply Rd.dr | with_reducible apply Rd.dr1)) hb
  replace So : Rd u13 (some ⟨u1.heap.size, 0, none⟩) 1 ([1]) := Rd.nx (by repeat (first | with_reducible exact So | with_reducible apply Rd.al | with_reducible apply Rd.dr | with_reducible apply Rd.dr1)) hb
  replace K : Kp w u13 := Kp.nx (by repeat (first | with_reducible exact K | with_reducible apply Kp.al | with_reducible apply Kp.dr | with_reducible apply Kp.dr1)) hb
  have Sa3 : Rd u13 pa3 qa3 (ja3) := ho.rd
  clear ho hb
  obtain ⟨jb3, hjb3⟩ : ∃ z : List Nat, z = L (((V xs) * (V ys)) * (V zs)) := ⟨_, rfl⟩
  have Nb3 : Hid (V jb3 = ((V xs) * (V ys)) * (V zs)) := Lib.hid (by rw [hjb3, V_L])
  have Hb3 := Lib.hid hjb3; clear hjb3
  go_wp2_with fail
  refine (NR.mul (xs := ja3) (ys := zs) (zs := jb3) (by repeat (first | with_reducible exact Sa3 | with_reducible apply Rd.al | with_reducible apply Rd.dr | with_reducible apply Rd.dr1)) (by repeat (first | with_reducible exact Sz | with_reducible apply Rd.al | with_reducible apply Rd.dr | with_reducible apply Rd.dr1)) rfl rfl (Nat.le_trans (NR.len_of Ha3.out (fx.mul fy)) (by decide)) (by omega)  (Hb3.out.trans (congrArg L (by first | with_reducible rfl | simp only [Na3.out, LN.V_nil, LN.V_one])))).mono ?_; rintro e u14 ⟨pb3, qb3, rfl, ho, hb⟩
  replace Sx : Rd u14 a0 cap0 (xs) := Rd.nx (by repeat (first | with_reducible exact Sx | with_reducible apply Rd.al | with_reducible apply Rd.dr | with_reducible apply Rd.dr1)) hb
  replace Sy : Rd u14 a1 cap1 (ys) := Rd.nx (by repeat (first | with_reducible exact Sy | with_reducible apply Rd.al | with_reducible apply Rd.dr | with_reducible apply Rd.dr1)) hb
  replace Sz : Rd u14 a2 cap2 (zs) := Rd.nx (by repeat (first | with_reducible exact Sz | with_reducible apply Rd.al | with_reducible apply Rd.dr | with_reducible apply Rd.dr1)) hb
  replace So : Rd u14 (some ⟨u1.heap.size, 0, none⟩) 1 ([1]) := Rd.nx (by repeat (first | with_reducible exact So | with_reducible apply Rd.al | with_reducible apply Rd.dr | with_reducible apply Rd.dr1)) hb
  replace Sa3 : Rd u14 pa3 qa3 (ja3) := Rd.nx (by repeat (first | with_reducible exact Sa3 | with_reducible apply Rd.al | with_reducible apply Rd.dr | with_reducible apply Rd.dr1)) hb
  replace K : Kp w u14 := Kp.nx (by repeat (first | with_reducible exact K | with_reducible apply Kp.al | with_reducible apply Kp.dr | with_reducible apply Kp.dr1)) hb
  have Sb3 : Rd u14 pb3 qb3 (jb3) := ho.rd
  clear ho hb
  obtain ⟨jc3, hjc3⟩ : ∃ z : List Nat, z = L ((V ys) * (V zs)) := ⟨_, rfl⟩
  have Nc3 : Hid (V jc3 = (V ys) * (V zs)) := Lib.hid (by rw [hjc3, V_L])
  have Hc3 := Lib.hid hjc3; clear hjc3
  go_wp2_with fail
  refine (NR.mul (xs := ys) (ys := zs) (zs := jc3) (by repeat (first | with_reducible exact Sy | with_reducible apply Rd.al | with_reducible apply Rd.dr | with_reducible apply Rd.dr1)) (by repeat (first | with_reducible exact Sz | with_reducible apply Rd.al | with_reducible apply Rd.dr | with_reducible apply Rd.dr1)) rfl rfl (by omega) (by omega)  (Hc3.out.trans (congrArg L (by first | with_reducible rfl | simp only [LN.V_nil, LN.V_one])))).mono ?_; rintro e u15 ⟨pc3, qc3, rfl, ho, hb⟩
  replace Sx : Rd u15 a0 cap0 (xs) := Rd.nx (by repeat (first | with_reducible exact Sx | with_reducible apply Rd.al | with_reducible apply Rd.dr | with_reducible apply Rd.dr1)) hb
  replace Sy : Rd u15 a1 cap1 (ys) := Rd.nx (by repeat (first | with_reducible exact Sy | with_reducible apply Rd.al | with_reducible apply Rd.dr | with_reducible apply Rd.dr1)) hb
  replace Sz : Rd u15 a2 cap2 (zs) := Rd.nx (by repeat (first | with_reducible exact Sz | with_reducible apply Rd.al | with_reducible apply Rd.dr | with_reducible apply Rd.dr1)) hb
  replace So : Rd u15 (some ⟨u1.heap.size, 0, none⟩) 1 ([1]) := Rd.nx (by repeat (first | with_reducible exact So | with_reducible apply Rd.al | with_reducible apply Rd.dr | with_reducible apply Rd.dr1)) hb
  replace Sa3 : Rd u15 pa3 qa3 (ja3) := Rd.nx (by repeat (first | with_reducible exact Sa3 | with_reducible apply Rd.al | with_reducible apply Rd.dr | with_reducible apply Rd.dr1)) hb
  replace Sb3 : Rd u15 pb3 qb3 (jb3) := Rd.nx (by repeat (first | with_reducible exact Sb3 | with_reducible apply Rd.al | with_reducible apply Rd.dr | with_reducible apply Rd.dr1)) hb
  replace K : Kp w u15 := Kp.nx (by repeat (first | with_reducible exact K | with_reducible apply Kp.al | with_reducible apply Kp.dr | with_reducible apply Kp.dr1)) hb
  have Sc3 : Rd u15 pc3 qc3 (jc3) := ho.rd
  clear ho hb
  obtain ⟨jd3, hjd3⟩ : ∃ z : List Nat, z = L ((V xs) * ((V ys) * (V zs))) := ⟨_, rfl⟩
  have Nd3 : Hid (V jd3 = (V xs) * ((V ys) * (V zs))) := Lib.hid (by rw [hjd3, V_L])
  have Hd3 := Lib.hid hjd3; clear hjd3
  go_wp2_with fail
  refine (NR.mul (xs := xs) (ys := jc3) (zs := jd3) (by repeat (first | with_reducible exact Sx | with_reducible apply Rd.al | with_reducible apply Rd.dr | with_reducible apply Rd.dr1)) (by repeat (first | with_reducible exact Sc3 | with_reducible apply Rd.al | with_reducible apply Rd.dr | with_reducible apply Rd.dr1)) rfl rfl (by omega) (Nat.le_trans (NR.len_of Hc3.out (fy.mul fz)) (by decide))  (Hd3.out.trans (congrArg L (by first | with_reducible rfl | simp only [Nc3.out, LN.V_nil, LN.V_one])))).mono ?_; rintro e u16 ⟨pd3, qd3, rfl, ho, hb⟩
  replace Sx : Rd u16 a0 cap0 (xs) := Rd.nx (by repeat (first | with_reducible exact Sx | with_reducible apply Rd.al | with_reducible apply Rd.dr | with_reducible apply Rd.dr1)) hb
  replace Sy : Rd u16 a1 cap1 (ys) := Rd.nx (by repeat (first | with_reducible exact Sy | with_reducible apply Rd.al | with_reducible apply Rd.dr | with_reducible apply Rd.dr1)) hb
  replace Sz : Rd u16 a2 cap2 (zs) := Rd.nx (by repeat (first | with_reducible exact Sz | with_reducible apply Rd.al | with_reducible apply Rd.dr | with_reducible apply Rd.dr1)) hb
  replace So : Rd u16 (some ⟨u1.heap.size, 0, none⟩) 1 ([1]) := Rd.nx (by repeat (first | with_reducible exact So | with_reducible apply Rd.al | with_reducible apply Rd.dr | with_reducible apply Rd.dr1)) hb
  replace Sa3 : Rd u16 pa3 qa3 (ja3) := Rd.nx (by repeat (first | with_reducible exact Sa3 | with_reducible apply Rd.al | with_reducible apply Rd.dr | with_reducible apply Rd.dr1)) hb
  replace Sb3 : Rd u16 pb3 qb3 (jb3) := Rd.nx (by repeat (first | with_reducible exact Sb3 | with_reducible apply Rd.al | with_reducible apply Rd.dr | with_reducible apply Rd.dr1)) hb
  replace Sc3 : Rd u16 pc3 qc3 (jc3) := Rd.nx (by repeat (first | with_reducible exact Sc3 | with_reducible apply Rd.al | with_reducible apply Rd.dr | with_reducible apply Rd.dr1)) hb
  replace K : Kp w u16 := Kp.nx (by repeat (first | with_reducible exact K | with_reducible apply Kp.al | with_reducible apply Kp.dr | with_reducible apply Kp.dr1)) hb
  have Sd3 : Rd u16 pd3 qd3 (jd3) := ho.rd
  clear ho hb
  go_wp2_with fail
  refine (NR.same_yes (xs := jb3) (ys := jd3) (by repeat (first | with_reducible exact Sb3 | with_reducible apply Rd.al | with_reducible apply Rd.dr | with_reducible apply Rd.dr1)) (by repeat (first | with_reducible exact Sd3 | with_reducible apply Rd.al | with_reducible apply Rd.dr | with_reducible apply Rd.dr1)) rfl rfl (Nat.le_trans (NR.len_of Hb3.out ((fx.mul fy).mul fz)) (by decide)) (Hb3.out.trans ((congrArg L (Nat.mul_assoc _ _ _)).trans Hd3.out.symm))).mono ?_; rintro e u17 ⟨rfl, hb⟩
  replace Sx : Rd u17 a0 cap0 (xs) := Rd.nx (by repeat (first | with_reducible exact Sx | with_reducible apply Rd.al | with_reducible apply Rd.dr | with_reducible apply Rd.dr1)) hb
  replace Sy : Rd u17 a1 cap1 (ys) := Rd.nx (by repeat (first | with_reducible exact Sy | with_reducible apply Rd.al | with_reducible apply Rd.dr | with_reducible apply Rd.dr1)) hb
  replace Sz : Rd u17 a2 cap2 (zs) := Rd.nx (by repeat (first | with_reducible exact Sz | with_reducible apply Rd.al | with_reducible apply Rd.dr | with_reducible apply Rd.dr1)) hb
  replace So : Rd u17 (some ⟨u1.heap.size, 0, none⟩) 1 ([1]) := Rd.nx (by repeat (first | with_reducible exact So | with_reducible apply Rd.al | with_reducible apply Rd.dr | with_reducible apply Rd.dr1)) hb
  replace Sa3 : Rd u17 pa3 qa3 (ja3) := Rd.nx (by repeat (first | with_reducible exact Sa3 | with_reducible apply Rd.al | with_reducible apply Rd.dr | with_reducible apply Rd.dr1)) hb
  replace Sb3 : Rd u17 pb3 qb3 (jb3) := Rd.nx (by repeat (first | with_reducible exact Sb3 | with_reducible apply Rd.al | with_reducible apply Rd.dr | with_reducible apply Rd.dr1)) hb
  replace Sc3 : Rd u17 pc3 qc3 (jc3) := Rd.nx (by repeat (first | with_reducible exact Sc3 | with_reducible apply Rd.al | with_reducible apply Rd.dr | with_reducible apply Rd.dr1)) hb
  replace Sd3 : Rd u17 pd3 qd3 (jd3) := Rd.nx (by repeat (first | with_reducible exact Sd3 | with_reducible apply Rd.al | with_reducible apply Rd.dr | with_reducible apply Rd.dr1)) hb
  replace K : Kp w u17 := Kp.nx (by repeat (first | with_reducible exact K | with_reducible apply Kp.al | with_reducible apply Kp.dr | with_reducible apply Kp.dr1)) hb
  clear hb
  clear Sa3
  clear Sb3
  clear Sc3
  clear Sd3
  obtain ⟨ja4, hja4⟩ : ∃ z : List Nat, z = L ((V ys) + (V zs)) := ⟨_, rfl⟩
  have Na4 : Hid (V ja4 = (V ys) + (V zs)) := Lib.hid (by rw [hja4, V_L])
  have Ha4 := Lib.hid hja4; clear hja4
  go_wp2_with fail
  refine (NR.add (xs := ys) (ys := zs) (zs := ja4) (by repeat (first | with_reducible exact Sy | with_reducible apply Rd.al | with_reducible apply Rd.dr | with_reducible apply Rd.dr1)) (by repeat (first | with_reducible exact Sz | with_reducible apply Rd.al | with_reducible apply Rd.dr | with_reducible apply Rd.dr1)) rfl rfl (by omega) (by omega)  (Ha4.out.trans (congrArg L (by first | with_reducible rfl | simp only [LN.V_nil, LN.V_one])))).mono ?_; rintro e u18 ⟨pa4, qa4, rfl, ho, hb⟩
  replace Sx : Rd u18 a0 cap0 (xs) := Rd.nx (by repeat (first | with_reducible exact Sx | with_reducible apply Rd.al | with_reducible apply Rd.dr | with_reducible apply Rd.dr1)) hb
  replace Sy : Rd u18 a1 cap1 (ys) := Rd.nx (by repeat (first | with_reducible exact Sy | with_reducible apply Rd.al | with_reducible apply Rd.dr | with_reducible apply Rd.dr1)) hb
  replace Sz : Rd u18 a2 cap2 (zs) := Rd.nx (by repeat (first | with_reducible exact Sz | with_reducible apply Rd.al | with_reducible apply Rd.dr | with_reducible apply Rd.dr1)) hb
  replace So : Rd u18 (some ⟨u1.heap.size, 0, none⟩) 1 ([1]) := Rd.nx (by repeat (first | with_reducible exact So | with_reducible apply Rd.al | with_reducible apply Rd.dr | with_reducible apply Rd.dr1)) hb
  replace K : Kp w u18 := Kp.nx (by repeat (first | with_reducible exact K | with_reducible apply Kp.al | with_reducible apply Kp.dr | with_reducible apply Kp.dr1)) hb
  have Sa4 : Rd u18 pa4 qa4 (ja4) := ho.rd
  clear ho hb
  obtain ⟨jb4, hjb4⟩ : ∃ z : List Nat, z = L ((V xs) * ((V ys) + (V zs))) := ⟨_, rfl⟩
  have Nb4 : Hid (V jb4 = (V xs) * ((V ys) + (V zs))) := Lib.hid (by rw [hjb4, V_L])
  have Hb4 := Lib.hid hjb4; clear hjb4
  go_wp2_with fail
  refine (NR.mul (xs := xs) (ys := ja4) (zs := jb4) (by repeat (first | with_reducible exact Sx | with_reducible apply Rd.al | with_reducible apply Rd.dr | with_reducible apply Rd.dr1)) (by repeat (first | with_reducible exact Sa4 | with_reducible apply Rd.al | with_reducible apply Rd.dr | with_reducible apply Rd.dr1)) rfl rfl (by omega) (Nat.le_trans (NR.len_of Ha4.out (fy.add fz)) (by decide))  (Hb4.out.trans (congrArg L (by first | with_reducible rfl | simp only [Na4.out, LN.V_nil, LN.V_one])))).mono ?_; rintro e u19 ⟨pb4, qb4, rfl, ho, hb⟩
  replace Sx : Rd u19 a0 cap0 (xs) := Rd.nx (by repeat (first | with_reducible exact Sx | with_reducible apply Rd.al | with_reducible apply Rd.dr | with_reducible apply Rd.dr1)) hb
  replace Sy : Rd u19 a1 cap1 (ys) := Rd.nx (by repeat (first | with_reducible exact Sy | with_reducible apply Rd.al | with_reducible apply Rd.dr | with_reducible apply Rd.dr1)) hb
  replace Sz : Rd u19 a2 cap2 (zs) := Rd.nx (by repeat (first | with_reducible exact Sz | with_reducible apply Rd.al | with_reducible apply Rd.dr | with_reducible apply Rd.dr1)) hb
  replace So : Rd u19 (some ⟨u1.heap.size, 0, none⟩) 1 ([1]) := Rd.nx (by repeat (first | with_reducible exact So | with_reducible apply Rd.al | with_reducible apply Rd.dr | with_reducible apply Rd.dr1)) hb
  replace Sa4 : Rd u19 pa4 qa4 (ja4) := Rd.nx (by repeat (first | with_reducible exact Sa4 | with_reducible apply Rd.al | with_reducible apply Rd.dr | with_reducible apply Rd.dr1)) hb
  replace K : Kp w u19 := Kp.nx (by repeat (first | with_reducible exact K | with_reducible apply Kp.al | with_reducible apply Kp.dr | with_reducible apply Kp.dr1)) hb
  have Sb4 : Rd u19 pb4 qb4 (jb4) := ho.rd
  clear ho hb
  obtain ⟨jc4, hjc4⟩ : ∃ z : List Nat, z = L ((V xs) * (V ys)) := ⟨_, rfl⟩
  have Nc4 : Hid (V jc4 = (V xs) * (V ys)) := Lib.hid (by rw [hjc4, V_L])
  have Hc4 := Lib.hid hjc4; clear hjc4
  go_wp2_with fail
  refine (NR.mul (xs := xs) (ys := ys) (zs := jc4) (by repeat (first | with_reducible exact Sx | with_reducible apply Rd.al | with_reducible apply Rd.dr | with_reducible apply Rd.dr1)) (by repeat (first | with_reducible exact Sy | with_reducible apply Rd.al | with_reducible apply Rd.dr | with_reducible apply Rd.dr1)) rfl rfl (by omega) (by omega)  (Hc4.out.trans (congrArg L (by first | with_reducible rfl | simp only [LN.V_nil, LN.V_one])))).mono ?_; rintro e u20 ⟨pc4, qc4, rfl, ho, hb⟩
  replace Sx : Rd u20 a0 cap0 (xs) := Rd.nx (by repeat (first | with_reducible exact Sx | with_reducible apply Rd.al | with_reducible apply Rd.dr | with_reducible apply Rd.dr1)) hb
  replace Sy : Rd u20 a1 cap1 (ys) := Rd.nx (by repeat (first | with_reducible exact Sy | with_reducible apply Rd.al | with_reducible apply Rd.dr | with_reducible apply Rd.dr1)) hb
  replace Sz : Rd u20 a2 cap2 (zs) := Rd.nx (by repeat (first | with_reducible exact Sz | with_reducible apply Rd.al | with_reducible apply Rd.dr | with_reducible apply Rd.dr1)) hb
  replace So : Rd u20 (some ⟨u1.heap.size, 0, none⟩) 1 ([1]) := Rd.nx (by repeat (first | with_reducible exact So | with_reducible apply Rd.al | with_reducible apply Rd.dr | with_reducible apply Rd.dr1)) hb
  replace Sa4 : Rd u20 pa4 qa4 (ja4) := Rd.nx (by repeat (first | with_reducible exact Sa4 | with_reducible apply Rd.al | with_reducible apply Rd.dr | with_reducible apply Rd.dr1)) hb
  replace Sb4 : Rd u20 pb4 qb4 (jb4) := Rd.nx (by repeat (first | with_reducible exact Sb4 | with_reducible apply Rd.al | with_reducible apply Rd.dr | with_reducible apply Rd.dr1)) hb
  replace K : Kp w u20 := Kp.nx (by repeat (first | with_reducible exact K | with_reducible apply Kp.al | with_reducible apply Kp.dr | with_reducible apply Kp.dr1)) hb
  have Sc4 : Rd u20 pc4 qc4 (jc4) := ho.rd
  clear ho hb
  obtain ⟨jd4, hjd4⟩ : ∃ z : List Nat, z = L ((V xs) * (V zs)) := ⟨_, rfl⟩
  have Nd4 : Hid (V jd4 = (V xs) * (V zs)) := Lib.hid (by rw [hjd4, V_L])
  have Hd4 := Lib.hid hjd4; clear hjd4
  go_wp2_with fail
  refine (NR.mul (xs := xs) (ys := zs) (zs := jd4) (by repeat (first | with_reducible exact Sx | with_reducible apply Rd.al | with_reducible apply Rd.dr | with_reducible apply Rd.dr1)) (by repeat (first | with_reducible exact Sz | with_reducible apply Rd.al | with_reducible apply Rd.dr | with_reducible apply Rd.dr1)) rfl rfl (by omega) (by omega)  (Hd4.out.trans (congrArg L (by first | with_reducible rfl | simp only [LN.V_nil, LN.V_one])))).mono ?_; rintro e u21 ⟨pd4, qd4, rfl, ho, hb⟩
  replace Sx : Rd u21 a0 cap0 (xs) := Rd.nx (by repeat (first | with_reducible exact Sx | with_reducible apply Rd.al | with_reducible apply Rd.dr | with_reducible apply Rd.dr1)) hb
  replace Sy : Rd u21 a1 cap1 (ys) := Rd.nx (by repeat (first | with_reducible exact Sy | with_reducible apply Rd.al | with_reducible apply Rd.dr | with_reducible apply Rd.dr1)) hb
  replace Sz : Rd u21 a2 cap2 (zs) := Rd.nx (by repeat (first | with_reducible exact Sz | with_reducible apply Rd.al | with_reducible apply Rd.dr | with_reducible apply Rd.dr1)) hb
  replace So : Rd u21 (some ⟨u1.heap.size, 0, none⟩) 1 ([1]) := Rd.nx (by repeat (first | with_reducible exact So | with_reducible apply Rd.al | with_reducible apply Rd.dr | with_reducible apply Rd.dr1)) hb
  replace Sa4 : Rd u21 pa4 qa4 (ja4) := Rd.nx (by repeat (first | with_reducible exact Sa4 | with_reducible apply Rd.al | with_reducible apply Rd.dr | with_reducible apply Rd.dr1)) hb
  replace Sb4 : Rd u21 pb4 qb4 (jb4) := Rd.nx (by repeat (first | with_reducible exact Sb4 | with_reducible apply Rd.al | with_reducible apply Rd.dr | with_reducible apply Rd.dr1)) hb
  replace Sc4 : Rd u21 pc4 qc4 (jc4) := Rd.nx (by repeat (first | with_reducible exact Sc4 | with_reducible apply Rd.al | with_reducible apply Rd.dr | with_reducible apply Rd.dr1)) hb
  replace K : Kp w u21 := Kp.nx (by repeat (first | with_reducible exact K | with_reducible apply Kp.al | with_reducible apply Kp.dr | with_reducible apply Kp.dr1)) hb
  have Sd4 : Rd u21 pd4 qd4 (jd4) := ho.rd
  clear ho hb
  obtain ⟨je4, hje4⟩ : ∃ z : List Nat, z = L (((V xs) * (V ys)) + ((V xs) * (V zs))) := ⟨_, rfl⟩
  have Ne4 : Hid (V je4 = ((V xs) * (V ys)) + ((V xs) * (V zs))) := Lib.hid (by rw [hje4, V_L])
  have He4 := Lib.hid hje4; clear hje4
  go_wp2_with fail
  refine (NR.add (xs := jc4) (ys := jd4) (zs := je4) (by repeat (first | with_reducible exact Sc4 | with_reducible apply Rd.al | with_reducible apply Rd.dr | with_reducible apply Rd.dr1)) (by repeat (first | with_reducible exact Sd4 | with_reducible apply Rd.al | with_reducible apply Rd.dr | with_reducible apply Rd.dr1)) rfl rfl (Nat.le_trans (NR.len_of Hc4.out (fx.mul fy)) (by decide)) (Nat.le_trans (NR.len_of Hd4.out (fx.mul fz)) (by decide))  (He4.out.trans (congrArg L (by first | with_reducible rfl | simp only [Nc4.out, Nd4.out, LN.V_nil, LN.V_one])))).mono ?_; rintro e u22 ⟨pe4, qe4, rfl, ho, hb⟩
  replace Sx : Rd u22 a0 cap0 (xs) := Rd.nx (by repeat (first | with_reducible exact Sx | with_reducible apply Rd.al | with_reducible apply Rd.dr | with_reducible apply Rd.dr1)) hb
  replace Sy : Rd u22 a1 cap1 (ys) := Rd.nx (by repeat (first | with_reducible exact Sy | with_reducible apply Rd.al | with_reducible apply Rd.dr | with_reducible apply Rd.dr1)) hb
  replace Sz : Rd u22 a2 cap2 (zs) := Rd.nx (by repeat (first | with_reducible exact Sz | with_reducible apply Rd.al | with_reducible apply Rd.dr | with_reducible apply Rd.dr1)) hb
  replace So : Rd u22 (some ⟨u1.heap.size, 0, none⟩) 1 ([1]) := Rd.nx (by repeat (first | with_reducible exact So | with_reducible apply Rd.al | with_reducible apply Rd.dr | with_reducible apply Rd.dr1)) hb
  replace Sa4 : Rd u22 pa4 qa4 (ja4) := Rd.nx (by repeat (first | with_reducible exact Sa4 | with_reducible apply Rd.al | with_reducible apply Rd.dr | with_reducible apply Rd.dr1)) hb
  replace Sb4 : Rd u22 pb4 qb4 (jb4) := Rd.nx (by repeat (first | with_reducible exact Sb4 | with_reducible apply Rd.al | with_reducible apply Rd.dr | with_reducible apply Rd.dr1)) hb
  replace Sc4 : Rd u22 pc4 qc4 (jc4) := Rd.nx (by repeat (first | with_reducible exact Sc4 | with_reducible apply Rd.al | with_reducible apply Rd.dr | with_reducible apply Rd.dr1)) hb
  replace Sd4 : Rd u22 pd4 qd4 (jd4) := Rd.nx (by repeat (first | with_reducible exact Sd4 | with_reducible apply Rd.al | with_reducible apply Rd.dr | with_reducible apply Rd.dr1)) hb
  replace K : Kp w u22 := Kp.nx (by repeat (first | with_reducible exact K | with_reducible apply Kp.al | with_reducible apply Kp.dr | with_reducible apply Kp.dr1)) hb
  have Se4 : Rd u22 pe4 qe4 (je4) := ho.rd
  clear ho hb
  go_wp2_with fail
  refine (NR.same_yes (xs := jb4) (ys := je4) (by repeat (first | with_reducible exact Sb4 | with_reducible apply Rd.al | with_reducible apply Rd.dr | with_reducible apply Rd.dr1)) (by repeat (first | with_reducible exact Se4 | with_reducible apply Rd.al | with_reducible apply Rd.dr | with_reducible apply Rd.dr1)) rfl rfl (Nat.le_trans (NR.len_of Hb4.out (fx.mul (fy.add fz))) (by decide)) (Hb4.out.trans ((congrArg L (Nat.mul_add _ _ _)).trans He4.out.symm))).mono ?_; rintro e u23 ⟨rfl, hb⟩
  replace Sx : Rd u23 a0 cap0 (xs) := Rd.nx (by repeat (first | with_reducible exact Sx | with_reducible apply Rd.al | with_reducible apply Rd.dr | with_reducible apply Rd.dr1)) hb
  replace Sy : Rd u23 a1 cap1 (ys) := Rd.nx (by repeat (first | with_reducible exact Sy | with_reducible apply Rd.al | with_reducible apply Rd.dr | with_reducible apply Rd.dr1)) hb
  replace Sz : Rd u23 a2 cap2 (zs) := Rd.nx (by repeat (first | with_reducible exact Sz | with_reducible apply Rd.al | with_reducible apply Rd.dr | with_reducible apply Rd.dr1)) hb
  replace So : Rd u23 (some ⟨u1.heap.size, 0, none⟩) 1 ([1]) := Rd.nx (by repeat (first | with_reducible exact So | with_reducible apply Rd.al | with_reducible apply Rd.dr | with_reducible apply Rd.dr1)) hb
  replace Sa4 : Rd u23 pa4 qa4 (ja4) := Rd.nx (by repeat (first | with_reducible exact Sa4 | with_reducible apply Rd.al | with_reducible apply Rd.dr | with_reducible apply Rd.dr1)) hb
  replace Sb4 : Rd u23 pb4 qb4 (jb4) := Rd.nx (by repeat (first | with_reducible exact Sb4 | with_reducible apply Rd.al | with_reducible apply Rd.dr | with_reducible apply Rd.dr1)) hb
  replace Sc4 : Rd u23 pc4 qc4 (jc4) := Rd.nx (by repeat (first | with_reducible exact Sc4 | with_reducible apply Rd.al | with_reducible apply Rd.dr | with_reducible apply Rd.dr1)) hb
  replace Sd4 : Rd u23 pd4 qd4 (jd4) := Rd.nx (by repeat (first | with_reducible exact Sd4 | with_reducible apply Rd.al | with_reducible apply Rd.dr | with_reducible apply Rd.dr1)) hb
  replace Se4 : Rd u23 pe4 qe4 (je4) := Rd.nx (by repeat (first | with_reducible exact Se4 | with_reducible apply Rd.al | with_reducible apply Rd.dr | with_reducible apply Rd.dr1)) hb
  replace K : Kp w u23 := Kp.nx (by repeat (first | with_reducible exact K | with_reducible apply Kp.al | with_reducible apply Kp.dr | with_reducible apply Kp.dr1)) hb
  clear hb
  clear Sa4
  clear Sb4
  clear Sc4
  clear Sd4
  clear Se4
  obtain ⟨ja5, hja5⟩ : ∃ z : List Nat, z = L ((V xs) + (0)) := ⟨_, rfl⟩
  have Na5 : Hid (V ja5 = (V xs) + (0)) := Lib.hid (by rw [hja5, V_L])
  have Ha5 := Lib.hid hja5; clear hja5
  go_wp2_with fail
  refine (NR.add (xs := xs) (ys := []) (zs := ja5) (by repeat (first | with_reducible exact Sx | with_reducible apply Rd.al | with_reducible apply Rd.dr | with_reducible apply Rd.dr1)) (by exact Rd.nil _) rfl rfl (by omega) (by decide)  (Ha5.out.trans (congrArg L (by first | with_reducible rfl | simp only [LN.V_nil, LN.V_one])))).mono ?_; rintro e u24 ⟨pa5, qa5, rfl, ho, hb⟩
  replace Sx : Rd u24 a0 cap0 (xs) := Rd.nx (by repeat (first | with_reducible exact Sx | with_reducible apply Rd.al | with_reducible apply Rd.dr | with_reducible apply Rd.dr1)) hb
  replace Sy : Rd u24 a1 cap1 (ys) := Rd.nx (by repeat (first | with_reducible exact Sy | with_reducible apply Rd.al | with_reducible apply Rd.dr | with_reducible apply Rd.dr1)) hb
  replace Sz : Rd u24 a2 cap2 (zs) := Rd.nx (by repeat (first | with_reducible exact Sz | with_reducible apply Rd.al | with_reducible apply Rd.dr | with_reducible apply Rd.dr1)) hb
  replace So : Rd u24 (some ⟨u1.heap.size, 0, none⟩) 1 ([1]) := Rd.nx (by repeat (first | with_reducible exact So | with_reducible apply Rd.al | with_reducible apply Rd.dr | with_reducible apply Rd.dr1)) hb
  replace K : Kp w u24 := Kp.nx (by repeat (first | with_reducible exact K | with_reducible apply Kp.al | with_reducible apply Kp.dr | with_reducible apply Kp.dr1)) hb
  have Sa5 : Rd u24 pa5 qa5 (ja5) := ho.rd
  clear ho hb
  obtain ⟨jb5, hjb5⟩ : ∃ z : List Nat, z = L (V xs) := ⟨_, rfl⟩
  have Nb5 : Hid (V jb5 = V xs) := Lib.hid (by rw [hjb5, V_L])
  have Hb5 := Lib.hid hjb5; clear hjb5
  go_wp2_with fail
  refine (NR.trim (xs := xs) (zs := jb5) (by repeat (first | with_reducible exact Sx | with_reducible apply Rd.al | with_reducible apply Rd.dr | with_reducible apply Rd.dr1)) rfl (by omega)  (Hb5.out.trans (congrArg L (by first | with_reducible rfl | simp only [LN.V_nil, LN.V_one])))).mono ?_; rintro e u25 ⟨pb5, qb5, rfl, ho, hb⟩
  replace Sx : Rd u25 a0 cap0 (xs) := Rd.nx (by repeat (first | with_reducible exact Sx | with_reducible apply Rd.al | with_reducible apply Rd.dr | with_reducible apply Rd.dr1)) hb
  replace Sy : Rd u25 a1 cap1 (ys) := Rd.nx (by repeat (first | with_reducible exact Sy | with_reducible apply Rd.al | with_reducible apply Rd.dr | with_reducible apply Rd.dr1)) hb
  replace Sz : Rd u25 a2 cap2 (zs) := Rd.nx (by repeat (first | with_reducible exact Sz | with_reducible apply Rd.al | with_reducible apply Rd.dr | with_reducible apply Rd.dr1)) hb
  replace So : Rd u25 (some ⟨u1.heap.size, 0, none⟩) 1 ([1]) := Rd.nx (by repeat (first | with_reducible exact So | with_reducible apply Rd.al | with_reducible apply Rd.dr | with_reducible apply Rd.dr1)) hb
  replace Sa5 : Rd u25 pa5 qa5 (ja5) := Rd.nx (by repeat (first | with_reducible exact Sa5 | with_reducible apply Rd.al | with_reducible apply Rd.dr | with_reducible apply Rd.dr1)) hb
  replace K : Kp w u25 := Kp.nx (by repeat (first | with_reducible exact K | with_reducible apply Kp.al | with_reducible apply Kp.dr | with_reducible apply Kp.dr1)) hb
  have Sb5 : Rd u25 pb5 qb5 (jb5) := ho.rd
  clear ho hb
  go_wp2_with fail
  refine (NR.same_yes (xs := ja5) (ys := jb5) (by repeat (first | with_reducible exact Sa5 | with_reducible apply Rd.al | with_reducible apply Rd.dr | with_reducible apply Rd.dr1)) (by repeat (first | with_reducible exact Sb5 | with_reducible apply Rd.al | with_reducible apply Rd.dr | with_reducible apply Rd.dr1)) rfl rfl (Nat.le_trans (NR.len_of Ha5.out (fx.add (show Fits 0 0 by unfold Fits; decide +kernel))) (by decide)) (Ha5.out.trans ((congrArg L (Nat.add_zero _)).trans Hb5.out.symm))).mono ?_; rintro e u26 ⟨rfl, hb⟩
  replace Sx : Rd u26 a0 cap0 (xs) := Rd.nx (by repeat (first | with_reducible exact Sx | with_reducible apply Rd.al | with_reducible apply Rd.dr | with_reducible apply Rd.dr1)) hb
  replace Sy : Rd u26 a1 cap1 (ys) := Rd.nx (by repeat (first | with_reducible exact Sy | with_reducible apply Rd.al | with_reducible apply Rd.dr | with_reducible apply Rd.dr1)) hb
  replace Sz : Rd u26 a2 cap2 (zs) := Rd.nx (by repeat (first | with_reducible exact Sz | with_reducible apply Rd.al | with_reducible apply Rd.dr | with_reducible apply Rd.dr1)) hb
  replace So : Rd u26 (some ⟨u1.heap.size, 0, none⟩) 1 ([1]) := Rd.nx (by repeat (first | with_reducible exact So | with_reducible apply Rd.al | with_reducible apply Rd.dr | with_reducible apply Rd.dr1)) hb
  replace Sa5 : Rd u26 pa5 qa5 (ja5) := Rd.nx (by repeat (first | with_reducible exact Sa5 | with_reducible apply Rd.al | with_reducible apply Rd.dr | with_reducible apply Rd.dr1)) hb
  replace Sb5 : Rd u26 pb5 qb5 (jb5) := Rd.nx (by repeat (first | with_reducible exact Sb5 | with_reducible apply Rd.al | with_reducible apply Rd.dr | with_reducible apply Rd.dr1)) hb
  replace K : Kp w u26 := Kp.nx (by repeat (first | with_reducible exact K | with_reducible apply Kp.al | with_reducible apply Kp.dr | with_reducible apply Kp.dr1)) hb
  clear hb
  clear Sa5
  clear Sb5
  obtain ⟨ja6, hja6⟩ : ∃ z : List Nat, z = L ((V xs) * (1)) := ⟨_, rfl⟩
  have Na6 : Hid (V ja6 = (V xs) * (1)) := Lib.hid (by rw [hja6, V_L])
  have Ha6 := Lib.hid hja6; clear hja6
  go_wp2_with fail
  refine (NR.mul (xs := xs) (ys := [1]) (zs := ja6) (by repeat (first | with_reducible exact Sx | with_reducible apply Rd.al | with_reducible apply Rd.dr | with_reducible apply Rd.dr1)) (by repeat (first | with_reducible exact So | with_reducible apply Rd.al | with_reducible apply Rd.dr | with_reducible apply Rd.dr1)) rfl rfl (by omega) (by decide)  (Ha6.out.trans (congrArg L (by first | with_reducible rfl | simp only [No.out, LN.V_nil, LN.V_one])))).mono ?_; rintro e u27 ⟨pa6, qa6, rfl, ho, hb⟩
  replace Sx : Rd u27 a0 cap0 (xs) := Rd.nx (by repeat (first | with_reducible exact Sx | with_reducible apply Rd.al | with_reducible apply Rd.dr | with_reducible apply Rd.dr1)) hb
  replace Sy : Rd u27 a1 cap1 (ys) := Rd.nx (by repeat (first | with_reducible exact Sy | with_reducible apply Rd.al | with_reducible apply Rd.dr | with_reducible apply Rd.dr1)) hb
  replace Sz : Rd u27 a2 cap2 (zs) := Rd.nx (by repeat (first | with_reducible exact Sz | with_reducible apply Rd.al | with_reducible apply Rd.dr | with_reducible apply Rd.dr1)) hb
  replace So : Rd u27 (some ⟨u1.heap.size, 0, none⟩) 1 ([1]) := Rd.nx (by repeat (first | with_reducible exact So | with_reducible apply Rd.al | with_reducible apply Rd.dr | with_reducible apply Rd.dr1)) hb
  replace K : Kp w u27 := Kp.nx (by repeat (first | with_reducible exact K | with_reducible apply Kp.al | with_reducible apply Kp.dr | with_reducible apply Kp.dr1)) hb
  have Sa6 : Rd u27 pa6 qa6 (ja6) := ho.rd
  clear ho hb
  obtain ⟨jb6, hjb6⟩ : ∃ z : List Nat, z = L (V xs) := ⟨_, rfl⟩
  have Nb6 : Hid (V jb6 = V xs) := Lib.hid (by rw [hjb6, V_L])
  have Hb6 := Lib.hid hjb6; clear hjb6
  go_wp2_with fail
  refine (NR.trim (xs := xs) (zs := jb6) (by repeat (first | with_reducible exact Sx | with_reducible apply Rd.al | with_reducible apply Rd.dr | with_reducible apply Rd.dr1)) rfl (by omega)  (Hb6.out.trans (congrArg L (by first | with_reducible rfl | simp only [LN.V_nil, LN.V_one])))).mono ?_; rintro e u28 ⟨pb6, qb6, rfl, ho, hb⟩
  replace Sx : Rd u28 a0 cap0 (xs) := Rd.nx (by repeat (first | with_reducible exact Sx | with_reducible apply Rd.al | with_reducible apply Rd.dr | with_reducible apply Rd.dr1)) hb
  replace Sy : Rd u28 a1 cap1 (ys) := Rd.nx (by repeat (first | with_reducible exact Sy | with_reducible apply Rd.al | with_reducible apply Rd.dr | with_reducible apply Rd.dr1)) hb
  replace Sz : Rd u28 a2 cap2 (zs) := Rd.nx (by repeat (first | with_reducible exact Sz | with_reducible apply Rd.al | with_reducible apply Rd.dr | with_reducible apply Rd.dr1)) hb
  replace So : Rd u28 (some ⟨u1.heap.size, 0, none⟩) 1 ([1]) := Rd.nx (by repeat (first | with_reducible exact So | with_reducible apply Rd.al | with_reducible apply Rd.dr | with_reducible apply Rd.dr1)) hb
  replace Sa6 : Rd u28 pa6 qa6 (ja6) := Rd.nx (by repeat (first | with_reducible exact Sa6 | with_reducible apply Rd.al | with_reducible apply Rd.dr | with_reducible apply Rd.dr1)) hb
  replace K : Kp w u28 := Kp.nx (by repeat (first | with_reducible exact K | with_reducible apply Kp.al | with_reducible apply Kp.dr | with_reducible apply Kp.dr1)) hb
  have Sb6 : Rd u28 pb6 qb6 (jb6) := ho.rd
  clear ho hb
  go_wp2_with fail
  refine (NR.same_yes (xs := ja6) (ys := jb6) (by repeat (first | with_reducible exact Sa6 | with_reducible apply Rd.al | with_reducible apply Rd.dr | with_reducible apply Rd.dr1)) (by repeat (first | with_reducible exact Sb6 | with_reducible apply Rd.al | with_reducible apply Rd.dr | with_reducible apply Rd.dr1)) rfl rfl (Nat.le_trans (NR.len_of Ha6.out (fx.mul (show Fits 1 1 by unfold Fits; decide +kernel))) (by decide)) (Ha6.out.trans ((congrArg L (Nat.mul_one _)).trans Hb6.out.symm))).mono ?_; rintro e u29 ⟨rfl, hb⟩
  replace Sx : Rd u29 a0 cap0 (xs) := Rd.nx (by repeat (first | with_reducible exact Sx | with_reducible apply Rd.al | with_reducible apply Rd.dr | with_reducible apply Rd.dr1)) hb
  replace Sy : Rd u29 a1 cap1 (ys) := Rd.nx (by repeat (first | with_reducible exact Sy | with_reducible apply Rd.al | with_reducible apply Rd.dr | with_reducible apply Rd.dr1)) hb
  replace Sz : Rd u29 a2 cap2 (zs) := Rd.nx (by repeat (first | with_reducible exact Sz | with_reducible apply Rd.al | with_reducible apply Rd.dr | with_reducible apply Rd.dr1)) hb
  replace So : Rd u29 (some ⟨u1.heap.size, 0, none⟩) 1 ([1]) := Rd.nx (by repeat (first | with_reducible exact So | with_reducible apply Rd.al | with_reducible apply Rd.dr | with_reducible apply Rd.dr1)) hb
  replace Sa6 : Rd u29 pa6 qa6 (ja6) := Rd.nx (by repeat (first | with_reducible exact Sa6 | with_reducible apply Rd.al | with_reducible apply Rd.dr | with_reducible apply Rd.dr1)) hb
  replace Sb6 : Rd u29 pb6 qb6 (jb6) := Rd.nx (by repeat (first | with_reducible exact Sb6 | with_reducible apply Rd.al | with_reducible apply Rd.dr | with_reducible apply Rd.dr1)) hb
  replace K : Kp w u29 := Kp.nx (by repeat (first | with_reducible exact K | with_reducible apply Kp.al | with_reducible apply Kp.dr | with_reducible apply Kp.dr1)) hb
  clear hb
  clear Sa6
  clear Sb6
  obtain ⟨ja7, hja7⟩ : ∃ z : List Nat, z = L ((V xs) * (0)) := ⟨_, rfl⟩
  have Na7 : Hid (V ja7 = (V xs) * (0)) := Lib.hid (by rw [hja7, V_L])
  have Ha7 := Lib.hid hja7; clear hja7
  go_wp2_with fail
  refine (NR.mul (xs := xs) (ys := []) (zs := ja7) (by repeat (first | with_reducible exact Sx | with_reducible apply Rd.al | with_reducible apply Rd.dr | with_reducible apply Rd.dr1)) (by exact Rd.nil _) rfl rfl (by omega) (by decide)  (Ha7.out.trans (congrArg L (by first | with_reducible rfl | simp only [LN.V_nil, LN.V_one])))).mono ?_; rintro e u30 ⟨pa7, qa7, rfl, ho, hb⟩
  replace Sx : Rd u30 a0 cap0 (xs) := Rd.nx (by repeat (first | with_reducible exact Sx | with_reducible apply Rd.al | with_reducible apply Rd.dr | with_reducible apply Rd.dr1)) hb
  replace Sy : Rd u30 a1 cap1 (ys) := Rd.nx (by repeat (first | with_reducible exact Sy | with_reducible apply Rd.al | with_reducible apply Rd.dr | with_reducible apply Rd.dr1)) hb
  replace Sz : Rd u30 a2 cap2 (zs) := Rd.nx (by repeat (first | with_reducible exact Sz | with_reducible apply Rd.al | with_reducible apply Rd.dr | with_reducible apply Rd.dr1)) hb
  replace So : Rd u30 (some ⟨u1.heap.size, 0, none⟩) 1 ([1]) := Rd.nx (by repeat (first | with_reducible exact So | with_reducible apply Rd.al | with_reducible apply Rd.dr | with_reducible apply Rd.dr1)) hb
  replace K : Kp w u30 := Kp.nx (by repeat (first | with_reducible exact K | with_reducible apply Kp.al | with_reducible apply Kp.dr | with_reducible apply Kp.dr1)) hb
  have Sa7 : Rd u30 pa7 qa7 (ja7) := ho.rd
  clear ho hb
  go_wp2_with fail
  refine (NR.zero (xs := ja7) (by repeat (first | with_reducible exact Sa7 | with_reducible apply Rd.al | with_reducible apply Rd.dr | with_reducible apply Rd.dr1)) rfl (Nat.le_trans (NR.len_of Ha7.out (fx.mul (show Fits 0 0 by unfold Fits; decide +kernel))) (by decide)) true (by rw [Na7.out]; rfl)).mono ?_; rintro e w' ⟨rfl, rfl⟩
  go_wp2_with fail
  go_ret
  exact ⟨rfl, Kp.below (by repeat (first | with_reducible exact K | with_reducible apply Kp.al | with_reducible apply Kp.dr | with_reducible apply Kp.dr1))⟩

/-! ### THE ROW's STEP: WRITTEN OUT: LEAVE IT -/
set_option maxRecDepth 100000 in
theorem lifted (os : Os) (started : os.Started) (H : Type) (enc : TypeId × Value → H) :
    ReturnsInHanded {} Try.checked os 5 .any (Rows.natRingSpec.pre6 enc Try.prog Try.f5 Rows.natRingRow.domain false) (Rows.natRingSpec.post enc Try.prog Try.f5 false true false false) := by
  refine returnsInHanded_of_change (C := Try.checked) own started (by kernel_rfl) Try.func5
    (ChangeSpec.witness6 (enc := enc) (C := Try.checked) false ⟨#[], #[.slice none 0 0, .slice none 0 0, .slice none 0 0], []⟩ 8 (by kernel_rfl) (by kernel_rfl) (by kernel_rfl) (by kernel_rfl)) ?_
  intro W base args ds gs before hval0 hW hcnd _
  have hval : ∀ (j : Nat) t v, Try.f5.params[j]? = some t → args[j]? = some v → Value.okWide Try.prog W .any base t v := hval0
  have hW' := hW
  obtain ⟨p, q, hA0, hV, rfl, hfz, hnd⟩ := hW
  have hA : DataW.TrodAll enc Try.prog W 0 (fun _ => true) true Try.f5.params.toList args.toList ds p := hA0
  rw [Try.params5] at hA hval
  obtain ⟨v0, vs0, d0, ds0, p0, q0, hargs, rfl, rfl, h0, r0⟩ := trodAll_cons hA
  obtain ⟨v1, vs1, d1, ds1, p1, q1, rfl, rfl, rfl, h1, r1⟩ := trodAll_cons r0
  obtain ⟨v2, vs2, d2, ds2, p2, q2, rfl, rfl, rfl, h2, r2⟩ := trodAll_cons r1
  obtain ⟨rfl, rfl, rfl⟩ := trodAll_nil r2
  obtain rfl : args = #[v0, v1, v2] := by cases args; simp_all
  obtain ⟨rfl, rfl⟩ := trodVars_none hV
  obtain ⟨a0, len0, cap0, rfl⟩ := okWide_slice Try.underlying23 (hval 0 23 v0 rfl rfl)
  have k0 := h0
  have lt0 : ∀ x ∈ p0, x.block < W.heap.size := by obtain ⟨m, hm⟩ := k0; exact DataW.trod_lt m _ _ _ hm
  obtain ⟨z0, w0⟩ : ∃ zs, IsRow .u64 W a0 len0 cap0 zs := by
    obtain ⟨fuel, hf⟩ := h0
    rcases open_ints Try.underlying23 Try.underlying34 (by kernel_rfl) hf with ⟨hcs, _⟩ | ⟨x, l, c, zs, hcs, _, hl, hm, hz, _, hcell, hwz⟩
    · simp [Value.cells] at hcs
      obtain ⟨rfl, rfl, rfl⟩ := hcs
      exact ⟨[], .inl ⟨rfl, rfl, rfl, rfl⟩⟩
    · simp [Value.cells] at hcs
      obtain ⟨rfl, rfl, rfl⟩ := hcs
      exact ⟨zs, .inr ⟨_, rfl, hl, hm, by simpa using hz, hcell, hwz⟩⟩
  obtain ⟨a1, len1, cap1, rfl⟩ := okWide_slice Try.underlying23 (hval 1 23 v1 rfl rfl)
  have k1 := h1
  have lt1 : ∀ x ∈ p1, x.block < W.heap.size := by obtain ⟨m, hm⟩ := k1; exact DataW.trod_lt m _ _ _ hm
  obtain ⟨z1, w1⟩ : ∃ zs, IsRow .u64 W a1 len1 cap1 zs := by
    obtain ⟨fuel, hf⟩ := h1
    rcases open_ints Try.underlying23 Try.underlying34 (by kernel_rfl) hf with ⟨hcs, _⟩ | ⟨x, l, c, zs, hcs, _, hl, hm, hz, _, hcell, hwz⟩
    · simp [Value.cells] at hcs
      obtain ⟨rfl, rfl, rfl⟩ := hcs
      exact ⟨[], .inl ⟨rfl, rfl, rfl, rfl⟩⟩
    · simp [Value.cells] at hcs
      obtain ⟨rfl, rfl, rfl⟩ := hcs
      exact ⟨zs, .inr ⟨_, rfl, hl, hm, by simpa using hz, hcell, hwz⟩⟩
  obtain ⟨a2, len2, cap2, rfl⟩ := okWide_slice Try.underlying23 (hval 2 23 v2 rfl rfl)
  have k2 := h2
  have lt2 : ∀ x ∈ p2, x.block < W.heap.size := by obtain ⟨m, hm⟩ := k2; exact DataW.trod_lt m _ _ _ hm
  obtain ⟨z2, w2⟩ : ∃ zs, IsRow .u64 W a2 len2 cap2 zs := by
    obtain ⟨fuel, hf⟩ := h2
    rcases open_ints Try.underlying23 Try.underlying34 (by kernel_rfl) hf with ⟨hcs, _⟩ | ⟨x, l, c, zs, hcs, _, hl, hm, hz, _, hcell, hwz⟩
    · simp [Value.cells] at hcs
      obtain ⟨rfl, rfl, rfl⟩ := hcs
      exact ⟨[], .inl ⟨rfl, rfl, rfl, rfl⟩⟩
    · simp [Value.cells] at hcs
      obtain ⟨rfl, rfl, rfl⟩ := hcs
      exact ⟨zs, .inr ⟨_, rfl, hl, hm, by simpa using hz, hcell, hwz⟩⟩
  clear hA0 hval0
  refine (walk a0 len0 cap0 z0 a1 len1 cap1 z1 a2 len2 cap2 z2 W w0 w1 w2).mono fun e W' ⟨he, bel⟩ => ?_
  subst he
  exact ⟨_, rfl, _, _, _, [], _, [], hW', trodAll_mk1 (shut_bool Try.underlying4 _), (trodAll_cons_mk (Below.trod laidOut (by kernel_rfl) (of_decide_eq_true (by kernel_rfl)) k0 bel lt0) (trodAll_cons_mk (Below.trod laidOut (by kernel_rfl) (of_decide_eq_true (by kernel_rfl)) k1 bel lt1) (trodAll_cons_mk (Below.trod laidOut (by kernel_rfl) (of_decide_eq_true (by kernel_rfl)) k2 bel lt2) trodAll_mk0))), rfl, bel.frame _, fun h => by cases h⟩

theorem over : Rows.natRingRow.holds Try.pinned (OpenSpec.ofChange Rows.natRingSpec) :=
  OpenClaim.holds_of_wide 5 Try.f5 rfl rfl rfl rfl rfl rfl rfl ⟨rfl, rfl, rfl, rfl, rfl⟩ rfl rfl rfl rfl rfl (by kernel_rfl) Try.func5 (by kernel_rfl)
    (of_decide_eq_true (by kernel_rfl)) (by unfold Func.isWrapper; first | (rw [if_pos (by decide +kernel)]; kernel_rfl) | (rw [if_neg (by decide +kernel)]; exact ⟨rfl, rfl⟩))
    (fun os started H enc _ => lifted os started H enc)

/-- ████ THE STATEMENT ████ -/
theorem proved : Rows.NatRingSaid := over
#print axioms proved
end Go.Proofs.Ytacjfbjhkogdaaa.natRing
