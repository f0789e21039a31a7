/- The statement NatOrder: of two naturals the greater one is so with any third one added to both, and multiplied by any third one that is not 0; just one of less, the same, greater holds. No condition. -/
import Derived.Test.YtacjfbjhkogdaaaRows
import Derived.WalkKit
import Derived.ProofKit
import Derived.OpenShut
import Derived.Test.YtacjfbjhkogdaaaNatLaw
import Derived.ShutString
import Derived.ChangeOld
import Derived.Below
namespace Go.Proofs.Ytacjfbjhkogdaaa.natOrder
open Go.ChangeShapes Go.WideShapes Go.ChangeAt Go.RowKit
open Go.Proofs
open Go.ChangeMaps (open_string shut_string)
set_option linter.unusedVariables false

theorem own : ownKnob Try.prog.godebug = none := by kernel_rfl
theorem laidOut : laidOutB Try.prog = true := by kernel_rfl

/-- WHAT THE WALK IS TOLD OF A SLICE OF INTEGERS THAT CAME IN: it is nil; or it leads to a row of 'cap' cells, the numbers 'zs' (the first 'len' are its elements, the rest its spare room), each fitting its kind. -/
def IsRow (k : IntKind) (w : World) (a : Option Addr) (len cap : Nat) (zs : List Int) : Prop :=
  (a = none ∧ len = 0 ∧ cap = 0 ∧ zs = []) ∨
  ∃ x, a = some x ∧ len ≤ cap ∧ cap ≤ maxLen ∧ zs.length = cap ∧ (∀ i, i < zs.length → w.cell? (x.add i) = some (.int k (zs.getD i 0))) ∧ ∀ n ∈ zs, (Lit.int k n).wf = true

open Go.Proofs.NP Go.Proofs.SL Go.Proofs.NR Go.Lib
set_option linter.unusedSimpArgs false
theorem cmp_lt {m n : Nat} (h : m < n) : (-1 : Int) = NT.cmpI m n := by unfold NT.cmpI; rw [if_pos h]
theorem cmp_gt {m n : Nat} (h : n < m) : (1 : Int) = NT.cmpI m n := by unfold NT.cmpI; rw [if_neg (by omega), if_pos h]
theorem cmp_eq {m n : Nat} (h : m = n) : (0 : Int) = NT.cmpI m n := by unfold NT.cmpI; rw [if_neg (by omega), if_neg (by omega)]
theorem mul_lt' {a b c : Nat} (h : a < b) (hc : c ≠ 0) : a * c < b * c := Nat.mul_lt_mul_of_pos_right h (by omega)

/-! ### STEP 1: THE WALK: the Go text returns true, AND WRITES NOTHING THAT WAS THERE: 'Below w.heap.size w w'' (Derived/Below.lean: '.refl', '.alloc', '.drew', '.setCell' at a new block, '.trans'). Open each 'IsRow' by 'rcases' AHEAD of 'go_enter'; part every test ahead of the walk. -/
set_option maxHeartbeats 8000000 in
set_option maxRecDepth 100000 in
theorem walk (a0 : Option Addr) (len0 cap0 : Nat) (z0 : List Int) (a1 : Option Addr) (len1 cap1 : Nat) (z1 : List Int) (a2 : Option Addr) (len2 cap2 : Nat) (z2 : List Int) (w : World) (w0 : IsRow .u64 w a0 len0 cap0 z0) (w1 : IsRow .u64 w a1 len1 cap1 z1) (w2 : IsRow .u64 w a2 len2 cap2 z2) :
    Calls Try.prog 6 #[.slice a0 len0 cap0, .slice a1 len1 cap1, .slice a2 len2 cap2] w fun e w' => e = .returned (.bool true) ∧ Below w.heap.size w w' := by
  obtain ⟨xs, rfl, Sx⟩ := LN.rows w0
  obtain ⟨ys, rfl, Sy⟩ := LN.rows w1
  obtain ⟨zs, rfl, Sz⟩ := LN.rows w2
  have K : Kp w w := Kp.refl w
  clear w0 w1 w2
  by_cases hs : ¬ (xs.length ≤ 24 ∧ ys.length ≤ 24 ∧ zs.length ≤ 24)
  · have hz : true = (decide (24 < xs.length) || (decide (24 < ys.length) || decide (24 < zs.length))) := by simp; omega
    clear hs
    have HZ := Lib.hid hz; clear hz
    go_enter Try.func6, Try.ntmps6
    go_wp2_with fail
    refine (LN.long3 (by simp) true HZ).mono ?_; rintro e w' ⟨rfl, rfl⟩
    go_wp2_with fail
    refine (LN.awake _).mono ?_; rintro e u1 ⟨rfl, hb⟩
    replace Sx : Rd u1 a0 cap0 (xs) := Rd.nx (by repeat (first | with_reducible exact Sx | with_reducible apply Rd.al | with_reducible apply Rd.dr | with_reducible apply Rd.dr1)) hb
    replace Sy : Rd u1 a1 cap1 (ys) := Rd.nx (by repeat (first | with_reducible exact Sy | with_reducible apply Rd.al | with_reducible apply Rd.dr | with_reducible apply Rd.dr1)) hb
    replace Sz : Rd u1 a2 cap2 (zs) := Rd.nx (by repeat (first | with_reducible exact Sz | with_reducible apply Rd.al | with_reducible apply Rd.dr | with_reducible apply Rd.dr1)) hb
    replace K : Kp w u1 := Kp.nx (by repeat (first | with_reducible exact K | with_reducible apply Kp.al | with_reducible apply Kp.dr | with_reducible apply Kp.dr1)) hb
    clear hb
    go_wp2_with fail
    go_ret
    exact ⟨rfl, Kp.below (by repeat (first | with_reducible exact K | with_reducible apply Kp.al | with_reducible apply Kp.dr | with_reducible apply Kp.dr1))⟩
  obtain ⟨n0, n1, n2⟩ : xs.length ≤ 24 ∧ ys.length ≤ 24 ∧ zs.length ≤ 24 := by omega
  clear hs
  have fx : Fits (V xs) 24 := Fits.of Sx.ws (by omega)
  have fy : Fits (V ys) 24 := Fits.of Sy.ws (by omega)
  have fz : Fits (V zs) 24 := Fits.of Sz.ws (by omega)
  have hz : false = (decide (24 < xs.length) || (decide (24 < ys.length) || decide (24 < zs.length))) := by simp; omega
  have HZ := Lib.hid hz; clear hz
  obtain ⟨i1, hi1, lo1, up1, ri1⟩ : ∃ z : Int, z = NT.cmpI (V ys) (V zs) ∧ -1 ≤ z ∧ z ≤ 1 ∧ (z ≤ 0 → V ys ≤ V zs) := ⟨_, rfl, by unfold NT.cmpI; split <;> (try split) <;> omega, by unfold NT.cmpI; split <;> (try split) <;> omega, by unfold NT.cmpI; split <;> (try split) <;> omega⟩
  have Hi1 := Lib.hid hi1; clear hi1
  rcases Nat.lt_trichotomy (V xs) (V ys) with h0 | h0 | h0
  · have H0 := Lib.hid h0; clear h0
    by_cases hc : V zs = 0
    · have Hc := Lib.hid hc; clear hc
      by_cases hi : i1 ≤ 0
      · have hle := ri1 hi
        obtain ⟨i2, hi2, ri2⟩ : ∃ z : Int, z = NT.cmpI (V xs) (V zs) ∧ z ≤ 0 := ⟨_, rfl, by have := H0.out; unfold NT.cmpI; split <;> (try split) <;> omega⟩
        have Hi2 := Lib.hid hi2; clear hi2
        clear hle ri1
        go_enter Try.func6, Try.ntmps6
        go_wp2_with fail
        refine (LN.long3 (by simp) false HZ).mono ?_; rintro e w' ⟨rfl, rfl⟩
        go_wp2_with fail
        refine (LN.awake _).mono ?_; rintro e u1 ⟨rfl, hb⟩
        replace Sx : Rd u1 a0 cap0 (xs) := Rd.nx (by repeat (first | with_reducible exact Sx | with_reducible apply Rd.al | with_reducible apply Rd.dr | with_reducible apply Rd.dr1)) hb
        replace Sy : Rd u1 a1 cap1 (ys) := Rd.nx (by repeat (first | with_reducible exact Sy | with_reducible apply Rd.al | with_reducible apply Rd.dr | with_reducible apply Rd.dr1)) hb
        replace Sz : Rd u1 a2 cap2 (zs) := Rd.nx (by repeat (first | with_reducible exact Sz | with_reducible apply Rd.al | with_reducible apply Rd.dr | with_reducible apply Rd.dr1)) hb
        replace K : Kp w u1 := Kp.nx (by repeat (first | with_reducible exact K | with_reducible apply Kp.al | with_reducible apply Kp.dr | with_reducible apply Kp.dr1)) hb
        clear hb
        go_wp2_with fail
        refine (NR.cmp (xs := xs) (ys := ys) (by repeat (first | with_reducible exact Sx | with_reducible apply Rd.al | with_reducible apply Rd.dr | with_reducible apply Rd.dr1)) (by repeat (first | with_reducible exact Sy | with_reducible apply Rd.al | with_reducible apply Rd.dr | with_reducible apply Rd.dr1)) rfl rfl (by omega) (by omega) (-1) (cmp_lt H0.out)).mono ?_; rintro e w' ⟨rfl, rfl⟩
        go_wp2_with fail
        refine (NR.cmp (xs := ys) (ys := xs) (by repeat (first | with_reducible exact Sy | with_reducible apply Rd.al | with_reducible apply Rd.dr | with_reducible apply Rd.dr1)) (by repeat (first | with_reducible exact Sx | with_reducible apply Rd.al | with_reducible apply Rd.dr | with_reducible apply Rd.dr1)) rfl rfl (by omega) (by omega) (1) (cmp_gt (by have := H0.out; omega))).mono ?_; rintro e w' ⟨rfl, rfl⟩
        obtain ⟨ja, hja⟩ : ∃ z : List Nat, z = L ((V xs) + (V zs)) := ⟨_, rfl⟩
        have Na : Hid (V ja = (V xs) + (V zs)) := Lib.hid (by rw [hja, V_L])
        have Ha := Lib.hid hja; clear hja
        go_wp2_with fail
        refine (NR.add (xs := xs) (ys := zs) (zs := ja) (by repeat (first | with_reducible exact Sx | with_reducible apply Rd.al | with_reducible apply Rd.dr | with_reducible apply Rd.dr1)) (by repeat (first | with_reducible exact Sz | with_reducible apply Rd.al | with_reducible apply Rd.dr | with_reducible apply Rd.dr1)) rfl rfl (by omega) (by omega)  (Ha.out.trans (congrArg L (by first | with_reducible rfl | simp only [LN.V_nil, LN.V_one])))).mono ?_; rintro e u2 ⟨pa, qa, rfl, ho, hb⟩
        replace Sx : Rd u2 a0 cap0 (xs) := Rd.nx (by repeat (first | with_reducible exact Sx | with_reducible apply Rd.al | with_reducible apply Rd.dr | with_reducible apply Rd.dr1)) hb
        replace Sy : Rd u2 a1 cap1 (ys) := Rd.nx (by repeat (first | with_reducible exact Sy | with_reducible apply Rd.al | with_reducible apply Rd.dr | with_reducible apply Rd.dr1)) hb
        replace Sz : Rd u2 a2 cap2 (zs) := Rd.nx (by repeat (first | with_reducible exact Sz | with_reducible apply Rd.al | with_reducible apply Rd.dr | with_reducible apply Rd.dr1)) hb
        replace K : Kp w u2 := Kp.nx (by repeat (first | with_reducible exact K | with_reducible apply Kp.al | with_reducible apply Kp.dr | with_reducible apply Kp.dr1)) hb
        have Sa : Rd u2 pa qa (ja) := ho.rd
        clear ho hb
        obtain ⟨jb, hjb⟩ : ∃ z : List Nat, z = L ((V ys) + (V zs)) := ⟨_, rfl⟩
        have Nb : Hid (V jb = (V ys) + (V zs)) := Lib.hid (by rw [hjb, V_L])
        have Hb := Lib.hid hjb; clear hjb
        go_wp2_with fail
        refine (NR.add (xs := ys) (ys := zs) (zs := jb) (by repeat (first | with_reducible exact Sy | with_reducible apply Rd.al | with_reducible apply Rd.dr | with_reducible apply Rd.dr1)) (by repeat (first | with_reducible exact Sz | with_reducible apply Rd.al | with_reducible apply Rd.dr | with_reducible apply Rd.dr1)) rfl rfl (by omega) (by omega)  (Hb.out.trans (congrArg L (by first | with_reducible rfl | simp only [LN.V_nil, LN.V_one])))).mono ?_; rintro e u3 ⟨pb, qb, rfl, ho, hb⟩
        replace Sx : Rd u3 a0 cap0 (xs) := Rd.nx (by repeat (first | with_reducible exact Sx | with_reducible apply Rd.al | with_reducible apply Rd.dr | with_reducible apply Rd.dr1)) hb
        replace Sy : Rd u3 a1 cap1 (ys) := Rd.nx (by repeat (first | with_reducible exact Sy | with_reducible apply Rd.al | with_reducible apply Rd.dr | with_reducible apply Rd.dr1)) hb
        replace Sz : Rd u3 a2 cap2 (zs) := Rd.nx (by repeat (first | with_reducible exact Sz | with_reducible apply Rd.al | with_reducible apply Rd.dr | with_reducible apply Rd.dr1)) hb
        replace Sa : Rd u3 pa qa (ja) := Rd.nx (by repeat (first | with_reducible exact Sa | with_reducible apply Rd.al | with_reducible apply Rd.dr | with_reducible apply Rd.dr1)) hb
        replace K : Kp w u3 := Kp.nx (by repeat (first | with_reducible exact K | with_reducible apply Kp.al | with_reducible apply Kp.dr | with_reducible apply Kp.dr1)) hb
        have Sb : Rd u3 pb qb (jb) := ho.rd
        clear ho hb
        go_wp2_with fail
        refine (NR.cmp (xs := ja) (ys := jb) (by repeat (first | with_reducible exact Sa | with_reducible apply Rd.al | with_reducible apply Rd.dr | with_reducible apply Rd.dr1)) (by repeat (first | with_reducible exact Sb | with_reducible apply Rd.al | with_reducible apply Rd.dr | with_reducible apply Rd.dr1)) rfl rfl (Nat.le_trans (NR.len_of Ha.out (fx.add fz)) (by decide)) (Nat.le_trans (NR.len_of Hb.out (fy.add fz)) (by decide)) (-1) (cmp_lt (by rw [Na.out, Nb.out]; have := H0.out; omega))).mono ?_; rintro e w' ⟨rfl, rfl⟩
        obtain ⟨jt, hjt⟩ : ∃ z : List Nat, z = L (V xs) := ⟨_, rfl⟩
        have Nt : Hid (V jt = V xs) := Lib.hid (by rw [hjt, V_L])
        have Ht := Lib.hid hjt; clear hjt
        go_wp2_with fail
        refine (NR.trim (xs := xs) (zs := jt) (by repeat (first | with_reducible exact Sx | with_reducible apply Rd.al | with_reducible apply Rd.dr | with_reducible apply Rd.dr1)) rfl (by omega)  (Ht.out.trans (congrArg L (by first | with_reducible rfl | simp only [LN.V_nil, LN.V_one])))).mono ?_; rintro e u4 ⟨pt, qt, rfl, ho, hb⟩
        replace Sx : Rd u4 a0 cap0 (xs) := Rd.nx (by repeat (first | with_reducible exact Sx | with_reducible apply Rd.al | with_reducible apply Rd.dr | with_reducible apply Rd.dr1)) hb
        replace Sy : Rd u4 a1 cap1 (ys) := Rd.nx (by repeat (first | with_reducible exact Sy | with_reducible apply Rd.al | with_reducible apply Rd.dr | with_reducible apply Rd.dr1)) hb
        replace Sz : Rd u4 a2 cap2 (zs) := Rd.nx (by repeat (first | with_reducible exact Sz | with_reducible apply Rd.al | with_reducible apply Rd.dr | with_reducible apply Rd.dr1)) hb
        replace Sa : Rd u4 pa qa (ja) := Rd.nx (by repeat (first | with_reducible exact Sa | with_reducible apply Rd.al | with_reducible apply Rd.dr | with_reducible apply Rd.dr1)) hb
        replace Sb : Rd u4 pb qb (jb) := Rd.nx (by repeat (first | with_reducible exact Sb | with_reducible apply Rd.al | with_reducible apply Rd.dr | with_reducible apply Rd.dr1)) hb
        replace K : Kp w u4 := Kp.nx (by repeat (first | with_reducible exact K | with_reducible apply Kp.al | with_reducible apply Kp.dr | with_reducible apply Kp.dr1)) hb
        have St : Rd u4 pt qt (jt) := ho.rd
        clear ho hb
        obtain ⟨jt2, hjt2⟩ : ∃ z : List Nat, z = L (V ys) := ⟨_, rfl⟩
        have Nt2 : Hid (V jt2 = V ys) := Lib.hid (by rw [hjt2, V_L])
        have Ht2 := Lib.hid hjt2; clear hjt2
        go_wp2_with fail
        refine (NR.trim (xs := ys) (zs := jt2) (by repeat (first | with_reducible exact Sy | with_reducible apply Rd.al | with_reducible apply Rd.dr | with_reducible apply Rd.dr1)) rfl (by omega)  (Ht2.out.trans (congrArg L (by first | with_reducible rfl | simp only [LN.V_nil, LN.V_one])))).mono ?_; rintro e u5 ⟨pt2, qt2, rfl, ho, hb⟩
        replace Sx : Rd u5 a0 cap0 (xs) := Rd.nx (by repeat (first | with_reducible exact Sx | with_reducible apply Rd.al | with_reducible apply Rd.dr | with_reducible apply Rd.dr1)) hb
        replace Sy : Rd u5 a1 cap1 (ys) := Rd.nx (by repeat (first | with_reducible exact Sy | with_reducible apply Rd.al | with_reducible apply Rd.dr | with_reducible apply Rd.dr1)) hb
        replace Sz : Rd u5 a2 cap2 (zs) := Rd.nx (by repeat (first | with_reducible exact Sz | with_reducible apply Rd.al | with_reducible apply Rd.dr | with_reducible apply Rd.dr1)) hb
        replace Sa : Rd u5 pa qa (ja) := Rd.nx (by repeat (first | with_reducible exact Sa | with_reducible apply Rd.al | with_reducible apply Rd.dr | with_reducible apply Rd.dr1)) hb
        replace Sb : Rd u5 pb qb (jb) := Rd.nx (by repeat (first | with_reducible exact Sb | with_reducible apply Rd.al | with_reducible apply Rd.dr | with_reducible apply Rd.dr1)) hb
        replace St : Rd u5 pt qt (jt) := Rd.nx (by repeat (first | with_reducible exact St | with_reducible apply Rd.al | with_reducible apply Rd.dr | with_reducible apply Rd.dr1)) hb
        replace K : Kp w u5 := Kp.nx (by repeat (first | with_reducible exact K | with_reducible apply Kp.al | with_reducible apply Kp.dr | with_reducible apply Kp.dr1)) hb
        have St2 : Rd u5 pt2 qt2 (jt2) := ho.rd
        clear ho hb
        go_wp2_with fail
        refine (NR.same (xs := jt) (ys := jt2) (by repeat (first | with_reducible exact St | with_reducible apply Rd.al | with_reducible apply Rd.dr | with_reducible apply Rd.dr1)) (by repeat (first | with_reducible exact St2 | with_reducible apply Rd.al | with_reducible apply Rd.dr | with_reducible apply Rd.dr1)) rfl rfl (Nat.le_trans (NR.len_of Ht.out fx) (by decide)) false (by have := H0.out; rw [Ht.out, Ht2.out]; symm; rw [beq_eq_false_iff_ne]; intro e; have := L_inj e; omega)).mono ?_; rintro e u6 ⟨rfl, hb⟩
        replace Sx : Rd u6 a0 cap0 (xs) := Rd.nx (by repeat (first | with_reducible exact Sx | with_reducible apply Rd.al | with_reducible apply Rd.dr | with_reducible apply Rd.dr1)) hb
        replace Sy : Rd u6 a1 cap1 (ys) := Rd.nx (by repeat (first | with_reducible exact Sy | with_reducible apply Rd.al | with_reducible apply Rd.dr | with_reducible apply Rd.dr1)) hb
        replace Sz : Rd u6 a2 cap2 (zs) := Rd.nx (by repeat (first | with_reducible exact Sz | with_reducible apply Rd.al | with_reducible apply Rd.dr | with_reducible apply Rd.dr1)) hb
        replace Sa : Rd u6 pa qa (ja) := Rd.nx (by repeat (first | with_reducible exact Sa | with_reducible apply Rd.al | with_reducible apply Rd.dr | with_reducible apply Rd.dr1)) hb
        replace Sb : Rd u6 pb qb (jb) := Rd.nx (by repeat (first | with_reducible exact Sb | with_reducible apply Rd.al | with_reducible apply Rd.dr | with_reducible apply Rd.dr1)) hb
        replace St : Rd u6 pt qt (jt) := Rd.nx (by repeat (first | with_reducible exact St | with_reducible apply Rd.al | with_reducible apply Rd.dr | with_reducible apply Rd.dr1)) hb
        replace St2 : Rd u6 pt2 qt2 (jt2) := Rd.nx (by repeat (first | with_reducible exact St2 | with_reducible apply Rd.al | with_reducible apply Rd.dr | with_reducible apply Rd.dr1)) hb
        replace K : Kp w u6 := Kp.nx (by repeat (first | with_reducible exact K | with_reducible apply Kp.al | with_reducible apply Kp.dr | with_reducible apply Kp.dr1)) hb
        clear hb
        clear Sa
        clear Sb
        clear St
        clear St2
        go_wp2_with fail
        refine (NR.cmp (xs := ys) (ys := zs) (by repeat (first | with_reducible exact Sy | with_reducible apply Rd.al | with_reducible apply Rd.dr | with_reducible apply Rd.dr1)) (by repeat (first | with_reducible exact Sz | with_reducible apply Rd.al | with_reducible apply Rd.dr | with_reducible apply Rd.dr1)) rfl rfl (by omega) (by omega) (i1) Hi1.out).mono ?_; rintro e w' ⟨rfl, rfl⟩
        go_wp2_with fail
        refine (NR.cmp (xs := xs) (ys := zs) (by repeat (first | with_reducible exact Sx | with_reducible apply Rd.al | with_reducible apply Rd.dr | with_reducible apply Rd.dr1)) (by repeat (first | with_reducible exact Sz | with_reducible apply Rd.al | with_reducible apply Rd.dr | with_reducible apply Rd.dr1)) rfl rfl (by omega) (by omega) (i2) Hi2.out).mono ?_; rintro e w' ⟨rfl, rfl⟩
        obtain ⟨jp, hjp⟩ : ∃ z : List Nat, z = L ((V xs) * (V zs)) := ⟨_, rfl⟩
        have Np : Hid (V jp = (V xs) * (V zs)) := Lib.hid (by rw [hjp, V_L])
        have Hp := Lib.hid hjp; clear hjp
        go_wp2_with fail
        refine (NR.mul (xs := xs) (ys := zs) (zs := jp) (by repeat (first | with_reducible exact Sx | with_reducible apply Rd.al | with_reducible apply Rd.dr | with_reducible apply Rd.dr1)) (by repeat (first | with_reducible exact Sz | with_reducible apply Rd.al | with_reducible apply Rd.dr | with_reducible apply Rd.dr1)) rfl rfl (by omega) (by omega)  (Hp.out.trans (congrArg L (by first | with_reducible rfl | simp only [LN.V_nil, LN.V_one])))).mono ?_; rintro e u7 ⟨pp, qp, rfl, ho, hb⟩
        replace Sx : Rd u7 a0 cap0 (xs) := Rd.nx (by repeat (first | with_reducible exact Sx | with_reducible apply Rd.al | with_reducible apply Rd.dr | with_reducible apply Rd.dr1)) hb
        replace Sy : Rd u7 a1 cap1 (ys) := Rd.nx (by repeat (first | with_reducible exact Sy | with_reducible apply Rd.al | with_reducible apply Rd.dr | with_reducible apply Rd.dr1)) hb
        replace Sz : Rd u7 a2 cap2 (zs) := Rd.nx (by repeat (first | with_reducible exact Sz | with_reducible apply Rd.al | with_reducible apply Rd.dr | with_reducible apply Rd.dr1)) hb
        replace K : Kp w u7 := Kp.nx (by repeat (first | with_reducible exact K | with_reducible apply Kp.al | with_reducible apply Kp.dr | with_reducible apply Kp.dr1)) hb
        have Sp : Rd u7 pp qp (jp) := ho.rd
        clear ho hb
        obtain ⟨jq, hjq⟩ : ∃ z : List Nat, z = L ((V ys) * (V zs)) := ⟨_, rfl⟩
        have Nq : Hid (V jq = (V ys) * (V zs)) := Lib.hid (by rw [hjq, V_L])
        have Hq := Lib.hid hjq; clear hjq
        go_wp2_with fail
        refine (NR.mul (xs := ys) (ys := zs) (zs := jq) (by repeat (first | with_reducible exact Sy | with_reducible apply Rd.al | with_reducible apply Rd.dr | with_reducible apply Rd.dr1)) (by repeat (first | with_reducible exact Sz | with_reducible apply Rd.al | with_reducible apply Rd.dr | with_reducible apply Rd.dr1)) rfl rfl (by omega) (by omega)  (Hq.out.trans (congrArg L (by first | with_reducible rfl | simp only [LN.V_nil, LN.V_one])))).mono ?_; rintro e u8 ⟨pq, qq, rfl, ho, hb⟩
        replace Sx : Rd u8 a0 cap0 (xs) := Rd.nx (by repeat (first | with_reducible exact Sx | with_reducible apply Rd.al | with_reducible apply Rd.dr | with_reducible apply Rd.dr1)) hb
        replace Sy : Rd u8 a1 cap1 (ys) := Rd.nx (by repeat (first | with_reducible exact Sy | with_reducible apply Rd.al | with_reducible apply Rd.dr | with_reducible apply Rd.dr1)) hb
        replace Sz : Rd u8 a2 cap2 (zs) := Rd.nx (by repeat (first | with_reducible exact Sz | with_reducible apply Rd.al | with_reducible apply Rd.dr | with_reducible apply Rd.dr1)) hb
        replace Sp : Rd u8 pp qp (jp) := Rd.nx (by repeat (first | with_reducible exact Sp | with_reducible apply Rd.al | with_reducible apply Rd.dr | with_reducible apply Rd.dr1)) hb
        replace K : Kp w u8 := Kp.nx (by repeat (first | with_reducible exact K | with_reducible apply Kp.al | with_reducible apply Kp.dr | with_reducible apply Kp.dr1)) hb
        have Sq : Rd u8 pq qq (jq) := ho.rd
        clear ho hb
        go_wp2_with fail
        refine (NR.cmp (xs := jp) (ys := jq) (by repeat (first | with_reducible exact Sp | with_reducible apply Rd.al | with_reducible apply Rd.dr | with_reducible apply Rd.dr1)) (by repeat (first | with_reducible exact Sq | with_reducible apply Rd.al | with_reducible apply Rd.dr | with_reducible apply Rd.dr1)) rfl rfl (Nat.le_trans (NR.len_of Hp.out (fx.mul fz)) (by decide)) (Nat.le_trans (NR.len_of Hq.out (fy.mul fz)) (by decide)) (0) (cmp_eq (by rw [Np.out, Nq.out, Hc.out]; rfl))).mono ?_; rintro e w' ⟨rfl, rfl⟩
        go_wp2_with fail
        refine (NR.zero (xs := zs) (by repeat (first | with_reducible exact Sz | with_reducible apply Rd.al | with_reducible apply Rd.dr | with_reducible apply Rd.dr1)) rfl (by omega) true (by rw [Hc.out]; rfl)).mono ?_; rintro e w' ⟨rfl, rfl⟩
        go_wp2_with fail
        go_ret
        exact ⟨rfl, Kp.below (by repeat (first | with_reducible exact K | with_reducible apply Kp.al | with_reducible apply Kp.dr | with_reducible apply Kp.dr1))⟩
      · have hi1 : 0 < i1 := by omega
        clear hi ri1
        go_enter Try.func6, Try.ntmps6
        go_wp2_with fail
        refine (LN.long3 (by simp) false HZ).mono ?_; rintro e w' ⟨rfl, rfl⟩
        go_wp2_with fail
        refine (LN.awake _).mono ?_; rintro e u1 ⟨rfl, hb⟩
        replace Sx : Rd u1 a0 cap0 (xs) := Rd.nx (by repeat (first | with_reducible exact Sx | with_reducible apply Rd.al | with_reducible apply Rd.dr | with_reducible apply Rd.dr1)) hb
        replace Sy : Rd u1 a1 cap1 (ys) := Rd.nx (by repeat (first | with_reducible exact Sy | with_reducible apply Rd.al | with_reducible apply Rd.dr | with_reducible apply Rd.dr1)) hb
        replace Sz : Rd u1 a2 cap2 (zs) := Rd.nx (by repeat (first | with_reducible exact Sz | with_reducible apply Rd.al | with_reducible apply Rd.dr | with_reducible apply Rd.dr1)) hb
        replace K : Kp w u1 := Kp.nx (by repeat (first | with_reducible exact K | with_reducible apply Kp.al | with_reducible apply Kp.dr | with_reducible apply Kp.dr1)) hb
        clear hb
        go_wp2_with fail
        refine (NR.cmp (xs := xs) (ys := ys) (by repeat (first | with_reducible exact Sx | with_reducible apply Rd.al | with_reducible apply Rd.dr | with_reducible apply Rd.dr1)) (by repeat (first | with_reducible exact Sy | with_reducible apply Rd.al | with_reducible apply Rd.dr | with_reducible apply Rd.dr1)) rfl rfl (by omega) (by omega) (-1) (cmp_lt H0.out)).mono ?_; rintro e w' ⟨rfl, rfl⟩
        go_wp2_with fail
        refine (NR.cmp (xs := ys) (ys := xs) (by repeat (first | with_reducible exact Sy | with_reducible apply Rd.al | with_reducible apply Rd.dr | with_reducible apply Rd.dr1)) (by repeat (first | with_reducible exact Sx | with_reducible apply Rd.al | with_reducible apply Rd.dr | with_reducible apply Rd.dr1)) rfl rfl (by omega) (by omega) (1) (cmp_gt (by have := H0.out; omega))).mono ?_; rintro e w' ⟨rfl, rfl⟩
        obtain ⟨ja, hja⟩ : ∃ z : List Nat, z = L ((V xs) + (V zs)) := ⟨_, rfl⟩
        have Na : Hid (V ja = (V xs) + (V zs)) := Lib.hid (by rw [hja, V_L])
        have Ha := Lib.hid hja; clear hja
        go_wp2_with fail
        refine (NR.add (xs := xs) (ys := zs) (zs := ja) (by repeat (first | with_reducible exact Sx | with_reducible apply Rd.al | with_reducible apply Rd.dr | with_reducible apply Rd.dr1)) (by repeat (first | with_reducible exact Sz | with_reducible apply Rd.al | with_reducible apply Rd.dr | with_reducible apply Rd.dr1)) rfl rfl (by omega) (by omega)  (Ha.out.trans (congrArg L (by first | with_reducible rfl | simp only [LN.V_nil, LN.V_one])))).mono ?_; rintro e u2 ⟨pa, qa, rfl, ho, hb⟩
        replace Sx : Rd u2 a0 cap0 (xs) := Rd.nx (by repeat (first | with_reducible exact Sx | with_reducible apply Rd.al | with_reducible apply Rd.dr | with_reducible apply Rd.dr1)) hb
        replace Sy : Rd u2 a1 cap1 (ys) := Rd.nx (by repeat (first | with_reducible exact Sy | with_reducible apply Rd.al | with_reducible apply Rd.dr | with_reducible apply Rd.dr1)) hb
        replace Sz : Rd u2 a2 cap2 (zs) := Rd.nx (by repeat (first | with_reducible exact Sz | with_reducible apply Rd.al | with_reducible apply Rd.dr | with_reducible apply Rd.dr1)) hb
        replace K : Kp w u2 := Kp.nx (by repeat (first | with_reducible exact K | with_reducible apply Kp.al | with_reducible apply Kp.dr | with_reducible apply Kp.dr1)) hb
        have Sa : Rd u2 pa qa (ja) := ho.rd
        clear ho hb
        obtain ⟨jb, hjb⟩ : ∃ z : List Nat, z = L ((V ys) + (V zs)) := ⟨_, rfl⟩
        have Nb : Hid (V jb = (V ys) + (V zs)) := Lib.hid (by rw [hjb, V_L])
        have Hb := Lib.hid hjb; clear hjb
        go_wp2_with fail
        refine (NR.add (xs := ys) (ys := zs) (zs := jb) (by repeat (first | with_reducible exact Sy | with_reducible apply Rd.al | with_reducible apply Rd.dr | with_reducible apply Rd.dr1)) (by repeat (first | with_reducible exact Sz | with_reducible apply Rd.al | with_reducible apply Rd.dr | with_reducible apply Rd.dr1)) rfl rfl (by omega) (by omega)  (Hb.out.trans (congrArg L (by first | with_reducible rfl | simp only [LN.V_nil, LN.V_one])))).mono ?_; rintro e u3 ⟨pb, qb, rfl, ho, hb⟩
        replace Sx : Rd u3 a0 cap0 (xs) := Rd.nx (by repeat (first | with_reducible exact Sx | with_reducible apply Rd.al | with_reducible apply Rd.dr | with_reducible apply Rd.dr1)) hb
        replace Sy : Rd u3 a1 cap1 (ys) := Rd.nx (by repeat (first | with_reducible exact Sy | with_reducible apply Rd.al | with_reducible apply Rd.dr | with_reducible apply Rd.dr1)) hb
        replace Sz : Rd u3 a2 cap2 (zs) := Rd.nx (by repeat (first | with_reducible exact Sz | with_reducible apply Rd.al | with_reducible apply Rd.dr | with_reducible apply Rd.dr1)) hb
        replace Sa : Rd u3 pa qa (ja) := Rd.nx (by repeat (first | with_reducible exact Sa | with_reducible apply Rd.al | with_reducible apply Rd.dr | with_reducible apply Rd.dr1)) hb
        replace K : Kp w u3 := Kp.nx (by repeat (first | with_reducible exact K | with_reducible apply Kp.al | with_reducible apply Kp.dr | with_reducible apply Kp.dr1)) hb
        have Sb : Rd u3 pb qb (jb) := ho.rd
        clear ho hb
        go_wp2_with fail
        refine (NR.cmp (xs := ja) (ys := jb) (by repeat (first | with_reducible exact Sa | with_reducible apply Rd.al | with_reducible apply Rd.dr | with_reducible apply Rd.dr1)) (by repeat (first | with_reducible exact Sb | with_reducible apply Rd.al | with_reducible apply Rd.dr | with_reducible apply Rd.dr1)) rfl rfl (Nat.le_trans (NR.len_of Ha.out (fx.add fz)) (by decide)) (Nat.le_trans (NR.len_of Hb.out (fy.add fz)) (by decide)) (-1) (cmp_lt (by rw [Na.out, Nb.out]; have := H0.out; omega))).mono ?_; rintro e w' ⟨rfl, rfl⟩
        obtain ⟨jt, hjt⟩ : ∃ z : List Nat, z = L (V xs) := ⟨_, rfl⟩
        have Nt : Hid (V jt = V xs) := Lib.hid (by rw [hjt, V_L])
        have Ht := Lib.hid hjt; clear hjt
        go_wp2_with fail
        refine (NR.trim (xs := xs) (zs := jt) (by repeat (first | with_reducible exact Sx | with_reducible apply Rd.al | with_reducible apply Rd.dr | with_reducible apply Rd.dr1)) rfl (by omega)  (Ht.out.trans (congrArg L (by first | with_reducible rfl | simp only [LN.V_nil, LN.V_one])))).mono ?_; rintro e u4 ⟨pt, qt, rfl, ho, hb⟩
        replace Sx : Rd u4 a0 cap0 (xs) := Rd.nx (by repeat (first | with_reducible exact Sx | with_reducible apply Rd.al | with_reducible apply Rd.dr | with_reducible apply Rd.dr1)) hb
        replace Sy : Rd u4 a1 cap1 (ys) := Rd.nx (by repeat (first | with_reducible exact Sy | with_reducible apply Rd.al | with_reducible apply Rd.dr | with_reducible apply Rd.dr1)) hb
        replace Sz : Rd u4 a2 cap2 (zs) := Rd.nx (by repeat (first | with_reducible exact Sz | with_reducible apply Rd.al | with_reducible apply Rd.dr | with_reducible apply Rd.dr1)) hb
        replace Sa : Rd u4 pa qa (ja) := Rd.nx (by repeat (first | with_reducible exact Sa | with_reducible apply Rd.al | with_reducible apply Rd.dr | with_reducible apply Rd.dr1)) hb
        replace Sb : Rd u4 pb qb (jb) := Rd.nx (by repeat (first | with_reducible exact Sb | with_reducible apply Rd.al | with_reducible apply Rd.dr | with_reducible apply Rd.dr1)) hb
        replace K : Kp w u4 := Kp.nx (by repeat (first | with_reducible exact K | with_reducible apply Kp.al | with_reducible apply Kp.dr | with_reducible apply Kp.dr1)) hb
        have St : Rd u4 pt qt (jt) := ho.rd
        clear ho hb
        obtain ⟨jt2, hjt2⟩ : ∃ z : List Nat, z = L (V ys) := ⟨_, rfl⟩
        have Nt2 : Hid (V jt2 = V ys) := Lib.hid (by rw [hjt2, V_L])
        have Ht2 := Lib.hid hjt2; clear hjt2
        go_wp2_with fail
        refine (NR.trim (xs := ys) (zs := jt2) (by repeat (first | with_reducible exact Sy | with_reducible apply Rd.al | with_reducible apply Rd.dr | with_reducible apply Rd.dr1)) rfl (by omega)  (Ht2.out.trans (congrArg L (by first | with_reducible rfl | simp only [LN.V_nil, LN.V_one])))).mono ?_; rintro e u5 ⟨pt2, qt2, rfl, ho, hb⟩
        replace Sx : Rd u5 a0 cap0 (xs) := Rd.nx (by repeat (first | with_reducible exact Sx | with_reducible apply Rd.al | with_reducible apply Rd.dr | with_reducible apply Rd.dr1)) hb
        replace Sy : Rd u5 a1 cap1 (ys) := Rd.nx (by repeat (first | with_reducible exact Sy | with_reducible apply Rd.al | with_reducible apply Rd.dr | with_reducible apply Rd.dr1)) hb
        replace Sz : Rd u5 a2 cap2 (zs) := Rd.nx (by repeat (first | with_reducible exact Sz | with_reducible apply Rd.al | with_reducible apply Rd.dr | with_reducible apply Rd.dr1)) hb
        replace Sa : Rd u5 pa qa (ja) := Rd.nx (by repeat (first | with_reducible exact Sa | with_reducible apply Rd.al | with_reducible apply Rd.dr | with_reducible apply Rd.dr1)) hb
        replace Sb : Rd u5 pb qb (jb) := Rd.nx (by repeat (first | with_reducible exact Sb | with_reducible apply Rd.al | with_reducible apply Rd.dr | with_reducible apply Rd.dr1)) hb
        replace St : Rd u5 pt qt (jt) := Rd.nx (by repeat (first | with_reducible exact St | with_reducible apply Rd.al | with_reducible apply Rd.dr | with_reducible apply Rd.dr1)) hb
        replace K : Kp w u5 := Kp.nx (by repeat (first | with_reducible exact K | with_reducible apply Kp.al | with_reducible apply Kp.dr | with_reducible apply Kp.dr1)) hb
        have St2 : Rd u5 pt2 qt2 (jt2) := ho.rd
        clear ho hb
        go_wp2_with fail
        refine (NR.same (xs := jt) (ys := jt2) (by repeat (first | with_reducible exact St | with_reducible apply Rd.al | with_reducible apply Rd.dr | with_reducible apply Rd.dr1)) (by repeat (first | with_reducible exact St2 | with_reducible apply Rd.al | with_reducible apply Rd.dr | with_reducible apply Rd.dr1)) rfl rfl (Nat.le_trans (NR.len_of Ht.out fx) (by decide)) false (by have := H0.out; rw [Ht.out, Ht2.out]; symm; rw [beq_eq_false_iff_ne]; intro e; have := L_inj e; omega)).mono ?_; rintro e u6 ⟨rfl, hb⟩
        replace Sx : Rd u6 a0 cap0 (xs) := Rd.nx (by repeat (first | with_reducible exact Sx | with_reducible apply Rd.al | with_reducible apply Rd.dr | with_reducible apply Rd.dr1)) hb
        replace Sy : Rd u6 a1 cap1 (ys) := Rd.nx (by repeat (first | with_reducible exact Sy | with_reducible apply Rd.al | with_reducible apply Rd.dr | with_reducible apply Rd.dr1)) hb
        replace Sz : Rd u6 a2 cap2 (zs) := Rd.nx (by repeat (first | with_reducible exact Sz | with_reducible apply Rd.al | with_reducible apply Rd.dr | with_reducible apply Rd.dr1)) hb
        replace Sa : Rd u6 pa qa (ja) := Rd.nx (by repeat (first | with_reducible exact Sa | with_reducible apply Rd.al | with_reducible apply Rd.dr | with_reducible apply Rd.dr1)) hb
        replace Sb : Rd u6 pb qb (jb) := Rd.nx (by repeat (first | with_reducible exact Sb | with_reducible apply Rd.al | with_reducible apply Rd.dr | with_reducible apply Rd.dr1)) hb
        replace St : Rd u6 pt qt (jt) := Rd.nx (by repeat (first | with_reducible exact St | with_reducible apply Rd.al | with_reducible apply Rd.dr | with_reducible apply Rd.dr1)) hb
        replace St2 : Rd u6 pt2 qt2 (jt2) := Rd.nx (by repeat (first | with_reducible exact St2 | with_reducible apply Rd.al | with_reducible apply Rd.dr | with_reducible apply Rd.dr1)) hb
        replace K : Kp w u6 := Kp.nx (by repeat (first | with_reducible exact K | with_reducible apply Kp.al | with_reducible apply Kp.dr | with_reducible apply Kp.dr1)) hb
        clear hb
        clear Sa
        clear Sb
        clear St
        clear St2
        go_wp2_with fail
        refine (NR.cmp (xs := ys) (ys := zs) (by repeat (first | with_reducible exact Sy | with_reducible apply Rd.al | with_reducible apply Rd.dr | with_reducible apply Rd.dr1)) (by repeat (first | with_reducible exact Sz | with_reducible apply Rd.al | with_reducible apply Rd.dr | with_reducible apply Rd.dr1)) rfl rfl (by omega) (by omega) (i1) Hi1.out).mono ?_; rintro e w' ⟨rfl, rfl⟩
        obtain ⟨jp, hjp⟩ : ∃ z : List Nat, z = L ((V xs) * (V zs)) := ⟨_, rfl⟩
        have Np : Hid (V jp = (V xs) * (V zs)) := Lib.hid (by rw [hjp, V_L])
        have Hp := Lib.hid hjp; clear hjp
        go_wp2_with fail
        refine (NR.mul (xs := xs) (ys := zs) (zs := jp) (by repeat (first | with_reducible exact Sx | with_reducible apply Rd.al | with_reducible apply Rd.dr | with_reducible apply Rd.dr1)) (by repeat (first | with_reducible exact Sz | with_reducible apply Rd.al | with_reducible apply Rd.dr | with_reducible apply Rd.dr1)) rfl rfl (by omega) (by omega)  (Hp.out.trans (congrArg L (by first | with_reducible rfl | simp only [LN.V_nil, LN.V_one])))).mono ?_; rintro e u7 ⟨pp, qp, rfl, ho, hb⟩
        replace Sx : Rd u7 a0 cap0 (xs) := Rd.nx (by repeat (first | with_reducible exact Sx | with_reducible apply Rd.al | with_reducible apply Rd.dr | with_reducible apply Rd.dr1)) hb
        replace Sy : Rd u7 a1 cap1 (ys) := Rd.nx (by repeat (first | with_reducible exact Sy | with_reducible apply Rd.al | with_reducible apply Rd.dr | with_reducible apply Rd.dr1)) hb
        replace Sz : Rd u7 a2 cap2 (zs) := Rd.nx (by repeat (first | with_reducible exact Sz | with_reducible apply Rd.al | with_reducible apply Rd.dr | with_reducible apply Rd.dr1)) hb
        replace K : Kp w u7 := Kp.nx (by repeat (first | with_reducible exact K | with_reducible apply Kp.al | with_reducible apply Kp.dr | with_reducible apply Kp.dr1)) hb
        have Sp : Rd u7 pp qp (jp) := ho.rd
        clear ho hb
        obtain ⟨jq, hjq⟩ : ∃ z : List Nat, z = L ((V ys) * (V zs)) := ⟨_, rfl⟩
        have Nq : Hid (V jq = (V ys) * (V zs)) := Lib.hid (by rw [hjq, V_L])
        have Hq := Lib.hid hjq; clear hjq
        go_wp2_with fail
        refine (NR.mul (xs := ys) (ys := zs) (zs := jq) (by repeat (first | with_reducible exact Sy | with_reducible apply Rd.al | with_reducible apply Rd.dr | with_reducible apply Rd.dr1)) (by repeat (first | with_reducible exact Sz | with_reducible apply Rd.al | with_reducible apply Rd.dr | with_reducible apply Rd.dr1)) rfl rfl (by omega) (by omega)  (Hq.out.trans (congrArg L (by first | with_reducible rfl | simp only [LN.V_nil, LN.V_one])))).mono ?_; rintro e u8 ⟨pq, qq, rfl, ho, hb⟩
        replace Sx : Rd u8 a0 cap0 (xs) := Rd.nx (by repeat (first | with_reducible exact Sx | with_reducible apply Rd.al | with_reducible apply Rd.dr | with_reducible apply Rd.dr1)) hb
        replace Sy : Rd u8 a1 cap1 (ys) := Rd.nx (by repeat (first | with_reducible exact Sy | with_reducible apply Rd.al | with_reducible apply Rd.dr | with_reducible apply Rd.dr1)) hb
        replace Sz : Rd u8 a2 cap2 (zs) := Rd.nx (by repeat (first | with_reducible exact Sz | with_reducible apply Rd.al | with_reducible apply Rd.dr | with_reducible apply Rd.dr1)) hb
        replace Sp : Rd u8 pp qp (jp) := Rd.nx (by repeat (first | with_reducible exact Sp | with_reducible apply Rd.al | with_reducible apply Rd.dr | with_reducible apply Rd.dr1)) hb
        replace K : Kp w u8 := Kp.nx (by repeat (first | with_reducible exact K | with_reducible apply Kp.al | with_reducible apply Kp.dr | with_reducible apply Kp.dr1)) hb
        have Sq : Rd u8 pq qq (jq) := ho.rd
        clear ho hb
        go_wp2_with fail
        refine (NR.cmp (xs := jp) (ys := jq) (by repeat (first | with_reducible exact Sp | with_reducible apply Rd.al | with_reducible apply Rd.dr | with_reducible apply Rd.dr1)) (by repeat (first | with_reducible exact Sq | with_reducible apply Rd.al | with_reducible apply Rd.dr | with_reducible apply Rd.dr1)) rfl rfl (Nat.le_trans (NR.len_of Hp.out (fx.mul fz)) (by decide)) (Nat.le_trans (NR.len_of Hq.out (fy.mul fz)) (by decide)) (0) (cmp_eq (by rw [Np.out, Nq.out, Hc.out]; rfl))).mono ?_; rintro e w' ⟨rfl, rfl⟩
        go_wp2_with fail
        refine (NR.zero (xs := zs) (by repeat (first | with_reducible exact Sz | with_reducible apply Rd.al | with_reducible apply Rd.dr | with_reducible apply Rd.dr1)) rfl (by omega) true (by rw [Hc.out]; rfl)).mono ?_; rintro e w' ⟨rfl, rfl⟩
        go_wp2_with fail
        go_ret
        exact ⟨rfl, Kp.below (by repeat (first | with_reducible exact K | with_reducible apply Kp.al | with_reducible apply Kp.dr | with_reducible apply Kp.dr1))⟩
    · have Hc := Lib.hid hc; clear hc
      by_cases hi : i1 ≤ 0
      · have hle := ri1 hi
        obtain ⟨i2, hi2, ri2⟩ : ∃ z : Int, z = NT.cmpI (V xs) (V zs) ∧ z ≤ 0 := ⟨_, rfl, by have := H0.out; unfold NT.cmpI; split <;> (try split) <;> omega⟩
        have Hi2 := Lib.hid hi2; clear hi2
        clear hle ri1
        go_enter Try.func6, Try.ntmps6
        go_wp2_with fail
        refine (LN.long3 (by simp) false HZ).mono ?_; rintro e w' ⟨rfl, rfl⟩
        go_wp2_with fail
        refine (LN.awake _).mono ?_; rintro e u1 ⟨rfl, hb⟩
        replace Sx : Rd u1 a0 cap0 (xs) := Rd.nx (by repeat (first | with_reducible exact Sx | with_reducible apply Rd.al | with_reducible apply Rd.dr | with_reducible apply Rd.dr1)) hb
        replace Sy : Rd u1 a1 cap1 (ys) := Rd.nx (by repeat (first | with_reducible exact Sy | with_reducible apply Rd.al | with_reducible apply Rd.dr | with_reducible apply Rd.dr1)) hb
        replace Sz : Rd u1 a2 cap2 (zs) := Rd.nx (by repeat (first | with_reducible exact Sz | with_reducible apply Rd.al | with_reducible apply Rd.dr | with_reducible apply Rd.dr1)) hb
        replace K : Kp w u1 := Kp.nx (by repeat (first | with_reducible exact K | with_reducible apply Kp.al | with_reducible apply Kp.dr | with_reducible apply Kp.dr1)) hb
        clear hb
        go_wp2_with fail
        refine (NR.cmp (xs := xs) (ys := ys) (by repeat (first | with_reducible exact Sx | with_reducible apply Rd.al | with_reducible apply Rd.dr | with_reducible apply Rd.dr1)) (by repeat (first | with_reducible exact Sy | with_reducible apply Rd.al | with_reducible apply Rd.dr | with_reducible apply Rd.dr1)) rfl rfl (by omega) (by omega) (-1) (cmp_lt H0.out)).mono ?_; rintro e w' ⟨rfl, rfl⟩
        go_wp2_with fail
        refine (NR.cmp (xs := ys) (ys := xs) (by repeat (first | with_reducible exact Sy | with_reducible apply Rd.al | with_reducible apply Rd.dr | with_reducible apply Rd.dr1)) (by repeat (first | with_reducible exact Sx | with_reducible apply Rd.al | with_reducible apply Rd.dr | with_reducible apply Rd.dr1)) rfl rfl (by omega) (by omega) (1) (cmp_gt (by have := H0.out; omega))).mono ?_; rintro e w' ⟨rfl, rfl⟩
        obtain ⟨ja, hja⟩ : ∃ z : List Nat, z = L ((V xs) + (V zs)) := ⟨_, rfl⟩
        have Na : Hid (V ja = (V xs) + (V zs)) := Lib.hid (by rw [hja, V_L])
        have Ha := Lib.hid hja; clear hja
        go_wp2_with fail
        refine (NR.add (xs := xs) (ys := zs) (zs := ja) (by repeat (first | with_reducible exact Sx | with_reducible apply Rd.al | with_reducible apply Rd.dr | with_reducible apply Rd.dr1)) (by repeat (first | with_reducible exact Sz | with_reducible apply Rd.al | with_reducible apply Rd.dr | with_reducible apply Rd.dr1)) rfl rfl (by omega) (by omega)  (Ha.out.trans (congrArg L (by first | with_reducible rfl | simp only [LN.V_nil, LN.V_one])))).mono ?_; rintro e u2 ⟨pa, qa, rfl, ho, hb⟩
        replace Sx : Rd u2 a0 cap0 (xs) := Rd.nx (by repeat (first | with_reducible exact Sx | with_reducible apply Rd.al | with_reducible apply Rd.dr | with_reducible apply Rd.dr1)) hb
        replace Sy : Rd u2 a1 cap1 (ys) := Rd.nx (by repeat (first | with_reducible exact Sy | with_reducible apply Rd.al | with_reducible apply Rd.dr | with_reducible apply Rd.dr1)) hb
        replace Sz : Rd u2 a2 cap2 (zs) := Rd.nx (by repeat (first | with_reducible exact Sz | with_reducible apply Rd.al | with_reducible apply Rd.dr | with_reducible apply Rd.dr1)) hb
        replace K : Kp w u2 := Kp.nx (by repeat (first | with_reducible exact K | with_reducible apply Kp.al | with_reducible apply Kp.dr | with_reducible apply Kp.dr1)) hb
        have Sa : Rd u2 pa qa (ja) := ho.rd
        clear ho hb
        obtain ⟨jb, hjb⟩ : ∃ z : List Nat, z = L ((V ys) + (V zs)) := ⟨_, rfl⟩
        have Nb : Hid (V jb = (V ys) + (V zs)) := Lib.hid (by rw [hjb, V_L])
        have Hb := Lib.hid hjb; clear hjb
        go_wp2_with fail
        refine (NR.add (xs := ys) (ys := zs) (zs := jb) (by repeat (first | with_reducible exact Sy | with_reducible apply Rd.al | with_reducible apply Rd.dr | with_reducible apply Rd.dr1)) (by repeat (first | with_reducible exact Sz | with_reducible apply Rd.al | with_reducible apply Rd.dr | with_reducible apply Rd.dr1)) rfl rfl (by omega) (by omega)  (Hb.out.trans (congrArg L (by first | with_reducible rfl | simp only [LN.V_nil, LN.V_one])))).mono ?_; rintro e u3 ⟨pb, qb, rfl, ho, hb⟩
        replace Sx : Rd u3 a0 cap0 (xs) := Rd.nx (by repeat (first | with_reducible exact Sx | with_reducible apply Rd.al | with_reducible apply Rd.dr | with_reducible apply Rd.dr1)) hb
        replace Sy : Rd u3 a1 cap1 (ys) := Rd.nx (by repeat (first | with_reducible exact Sy | with_reducible apply Rd.al | with_reducible apply Rd.dr | with_reducible apply Rd.dr1)) hb
        replace Sz : Rd u3 a2 cap2 (zs) := Rd.nx (by repeat (first | with_reducible exact Sz | with_reducible apply Rd.al | with_reducible apply Rd.dr | with_reducible apply Rd.dr1)) hb
        replace Sa : Rd u3 pa qa (ja) := Rd.nx (by repeat (first | with_reducible exact Sa | with_reducible apply Rd.al | with_reducible apply Rd.dr | with_reducible apply Rd.dr1)) hb
        replace K : Kp w u3 := Kp.nx (by repeat (first | with_reducible exact K | with_reducible apply Kp.al | with_reducible apply Kp.dr | with_reducible apply Kp.dr1)) hb
        have Sb : Rd u3 pb qb (jb) := ho.rd
        clear ho hb
        go_wp2_with fail
        refine (NR.cmp (xs := ja) (ys := jb) (by repeat (first | with_reducible exact Sa | with_reducible apply Rd.al | with_reducible apply Rd.dr | with_reducible apply Rd.dr1)) (by repeat (first | with_reducible exact Sb | with_reducible apply Rd.al | with_reducible apply Rd.dr | with_reducible apply Rd.dr1)) rfl rfl (Nat.le_trans (NR.len_of Ha.out (fx.add fz)) (by decide)) (Nat.le_trans (NR.len_of Hb.out (fy.add fz)) (by decide)) (-1) (cmp_lt (by rw [Na.out, Nb.out]; have := H0.out; omega))).mono ?_; rintro e w' ⟨rfl, rfl⟩
        obtain ⟨jt, hjt⟩ : ∃ z : List Nat, z = L (V xs) := ⟨_, rfl⟩
        have Nt : Hid (V jt = V xs) := Lib.hid (by rw [hjt, V_L])
        have Ht := Lib.hid hjt; clear hjt
        go_wp2_with fail
        refine (NR.trim (xs := xs) (zs := jt) (by repeat (first | with_reducible exact Sx | with_reducible apply Rd.al | with_reducible apply Rd.dr | with_reducible apply Rd.dr1)) rfl (by omega)  (Ht.out.trans (congrArg L (by first | with_reducible rfl | simp only [LN.V_nil, LN.V_one])))).mono ?_; rintro e u4 ⟨pt, qt, rfl, ho, hb⟩
        replace Sx : Rd u4 a0 cap0 (xs) := Rd.nx (by repeat (first | with_reducible exact Sx | with_reducible apply Rd.al | with_reducible apply Rd.dr | with_reducible apply Rd.dr1)) hb
        replace Sy : Rd u4 a1 cap1 (ys) := Rd.nx (by repeat (first | with_reducible exact Sy | with_reducible apply Rd.al | with_reducible apply Rd.dr | with_reducible apply Rd.dr1)) hb
        replace Sz : Rd u4 a2 cap2 (zs) := Rd.nx (by repeat (first | with_reducible exact Sz | with_reducible apply Rd.al | with_reducible apply Rd.dr | with_reducible apply Rd.dr1)) hb
        replace Sa : Rd u4 pa qa (ja) := Rd.nx (by repeat (first | with_reducible exact Sa | with_reducible apply Rd.al | with_reducible apply Rd.dr | with_reducible apply Rd.dr1)) hb
        replace Sb : Rd u4 pb qb (jb) := Rd.nx (by repeat (first | with_reducible exact Sb | with_reducible apply Rd.al | with_reducible apply Rd.dr | with_reducible apply Rd.dr1)) hb
        replace K : Kp w u4 := Kp.nx (by repeat (first | with_reducible exact K | with_reducible apply Kp.al | with_reducible apply Kp.dr | with_reducible apply Kp.dr1)) hb
        have St : Rd u4 pt qt (jt) := ho.rd
        clear ho hb
        obtain ⟨jt2, hjt2⟩ : ∃ z : List Nat, z = L (V ys) := ⟨_, rfl⟩
        have Nt2 : Hid (V jt2 = V ys) := Lib.hid (by rw [hjt2, V_L])
        have Ht2 := Lib.hid hjt2; clear hjt2
        go_wp2_with fail
        refine (NR.trim (xs := ys) (zs := jt2) (by repeat (first | with_reducible exact Sy | with_reducible apply Rd.al | with_reducible apply Rd.dr | with_reducible apply Rd.dr1)) rfl (by omega)  (Ht2.out.trans (congrArg L (by first | with_reducible rfl | simp only [LN.V_nil, LN.V_one])))).mono ?_; rintro e u5 ⟨pt2, qt2, rfl, ho, hb⟩
        replace Sx : Rd u5 a0 cap0 (xs) := Rd.nx (by repeat (first | with_reducible exact Sx | with_reducible apply Rd.al | with_reducible apply Rd.dr | with_reducible apply Rd.dr1)) hb
        replace Sy : Rd u5 a1 cap1 (ys) := Rd.nx (by repeat (first | with_reducible exact Sy | with_reducible apply Rd.al | with_reducible apply Rd.dr | with_reducible apply Rd.dr1)) hb
        replace Sz : Rd u5 a2 cap2 (zs) := Rd.nx (by repeat (first | with_reducible exact Sz | with_reducible apply Rd.al | with_reducible apply Rd.dr | with_reducible apply Rd.dr1)) hb
        replace Sa : Rd u5 pa qa (ja) := Rd.nx (by repeat (first | with_reducible exact Sa | with_reducible apply Rd.al | with_reducible apply Rd.dr | with_reducible apply Rd.dr1)) hb
        replace Sb : Rd u5 pb qb (jb) := Rd.nx (by repeat (first | with_reducible exact Sb | with_reducible apply Rd.al | with_reducible apply Rd.dr | with_reducible apply Rd.dr1)) hb
        replace St : Rd u5 pt qt (jt) := Rd.nx (by repeat (first | with_reducible exact St | with_reducible apply Rd.al | with_reducible apply Rd.dr | with_reducible apply Rd.dr1)) hb
        replace K : Kp w u5 := Kp.nx (by repeat (first | with_reducible exact K | with_reducible apply Kp.al | with_reducible apply Kp.dr | with_reducible apply Kp.dr1)) hb
        have St2 : Rd u5 pt2 qt2 (jt2) := ho.rd
        clear ho hb
        go_wp2_with fail
        refine (NR.same (xs := jt) (ys := jt2) (by repeat (first | with_reducible exact St | with_reducible apply Rd.al | with_reducible apply Rd.dr | with_reducible apply Rd.dr1)) (by repeat (first | with_reducible exact St2 | with_reducible apply Rd.al | with_reducible apply Rd.dr | with_reducible apply Rd.dr1)) rfl rfl (Nat.le_trans (NR.len_of Ht.out fx) (by decide)) false (by have := H0.out; rw [Ht.out, Ht2.out]; symm; rw [beq_eq_false_iff_ne]; intro e; have := L_inj e; omega)).mono ?_; rintro e u6 ⟨rfl, hb⟩
        replace Sx : Rd u6 a0 cap0 (xs) := Rd.nx (by repeat (first | with_reducible exact Sx | with_reducible apply Rd.al | with_reducible apply Rd.dr | with_reducible apply Rd.dr1)) hb
        replace Sy : Rd u6 a1 cap1 (ys) := Rd.nx (by repeat (first | with_reducible exact Sy | with_reducible apply Rd.al | with_reducible apply Rd.dr | with_reducible apply Rd.dr1)) hb
        replace Sz : Rd u6 a2 cap2 (zs) := Rd.nx (by repeat (first | with_reducible exact Sz | with_reducible apply Rd.al | with_reducible apply Rd.dr | with_reducible apply Rd.dr1)) hb
        replace Sa : Rd u6 pa qa (ja) := Rd.nx (by repeat (first | with_reducible exact Sa | with_reducible apply Rd.al | with_reducible apply Rd.dr | with_reducible apply Rd.dr1)) hb
        replace Sb : Rd u6 pb qb (jb) := Rd.nx (by repeat (first | with_reducible exact Sb | with_reducible apply Rd.al | with_reducible apply Rd.dr | with_reducible apply Rd.dr1)) hb
        replace St : Rd u6 pt qt (jt) := Rd.nx (by repeat (first | with_reducible exact St | with_reducible apply Rd.al | with_reducible apply Rd.dr | with_reducible apply Rd.dr1)) hb
        replace St2 : Rd u6 pt2 qt2 (jt2) := Rd.nx (by repeat (first | with_reducible exact St2 | with_reducible apply Rd.al | with_reducible apply Rd.dr | with_reducible apply Rd.dr1)) hb
        replace K : Kp w u6 := Kp.nx (by repeat (first | with_reducible exact K | with_reducible apply Kp.al | with_reducible apply Kp.dr | with_reducible apply Kp.dr1)) hb
        clear hb
        clear Sa
        clear Sb
        clear St
        clear St2
        go_wp2_with fail
        refine (NR.cmp (xs := ys) (ys := zs) (by repeat (first | with_reducible exact Sy | with_reducible apply Rd.al | with_reducible apply Rd.dr | with_reducible apply Rd.dr1)) (by repeat (first | with_reducible exact Sz | with_reducible apply Rd.al | with_reducible apply Rd.dr | with_reducible apply Rd.dr1)) rfl rfl (by omega) (by omega) (i1) Hi1.out).mono ?_; rintro e w' ⟨rfl, rfl⟩
        go_wp2_with fail
        refine (NR.cmp (xs := xs) (ys := zs) (by repeat (first | with_reducible exact Sx | with_reducible apply Rd.al | with_reducible apply Rd.dr | with_reducible apply Rd.dr1)) (by repeat (first | with_reducible exact Sz | with_reducible apply Rd.al | with_reducible apply Rd.dr | with_reducible apply Rd.dr1)) rfl rfl (by omega) (by omega) (i2) Hi2.out).mono ?_; rintro e w' ⟨rfl, rfl⟩
        obtain ⟨jp, hjp⟩ : ∃ z : List Nat, z = L ((V xs) * (V zs)) := ⟨_, rfl⟩
        have Np : Hid (V jp = (V xs) * (V zs)) := Lib.hid (by rw [hjp, V_L])
        have Hp := Lib.hid hjp; clear hjp
        go_wp2_with fail
        refine (NR.mul (xs := xs) (ys := zs) (zs := jp) (by repeat (first | with_reducible exact Sx | with_reducible apply Rd.al | with_reducible apply Rd.dr | with_reducible apply Rd.dr1)) (by repeat (first | with_reducible exact Sz | with_reducible apply Rd.al | with_reducible apply Rd.dr | with_reducible apply Rd.dr1)) rfl rfl (by omega) (by omega)  (Hp.out.trans (congrArg L (by first | with_reducible rfl | simp only [LN.V_nil, LN.V_one])))).mono ?_; rintro e u7 ⟨pp, qp, rfl, ho, hb⟩
        replace Sx : Rd u7 a0 cap0 (xs) := Rd.nx (by repeat (first | with_reducible exact Sx | with_reducible apply Rd.al | with_reducible apply Rd.dr | with_reducible apply Rd.dr1)) hb
        replace Sy : Rd u7 a1 cap1 (ys) := Rd.nx (by repeat (first | with_reducible exact Sy | with_reducible apply Rd.al | with_reducible apply Rd.dr | with_reducible apply Rd.dr1)) hb
        replace Sz : Rd u7 a2 cap2 (zs) := Rd.nx (by repeat (first | with_reducible exact Sz | with_reducible apply Rd.al | with_reducible apply Rd.dr | with_reducible apply Rd.dr1)) hb
        replace K : Kp w u7 := Kp.nx (by repeat (first | with_reducible exact K | with_reducible apply Kp.al | with_reducible apply Kp.dr | with_reducible apply Kp.dr1)) hb
        have Sp : Rd u7 pp qp (jp) := ho.rd
        clear ho hb
        obtain ⟨jq, hjq⟩ : ∃ z : List Nat, z = L ((V ys) * (V zs)) := ⟨_, rfl⟩
        have Nq : Hid (V jq = (V ys) * (V zs)) := Lib.hid (by rw [hjq, V_L])
        have Hq := Lib.hid hjq; clear hjq
        go_wp2_with fail
        refine (NR.mul (xs := ys) (ys := zs) (zs := jq) (by repeat (first | with_reducible exact Sy | with_reducible apply Rd.al | with_reducible apply Rd.dr | with_reducible apply Rd.dr1)) (by repeat (first | with_reducible exact Sz | with_reducible apply Rd.al | with_reducible apply Rd.dr | with_reducible apply Rd.dr1)) rfl rfl (by omega) (by omega)  (Hq.out.trans (congrArg L (by first | with_reducible rfl | simp only [LN.V_nil, LN.V_one])))).mono ?_; rintro e u8 ⟨pq, qq, rfl, ho, hb⟩
        replace Sx : Rd u8 a0 cap0 (xs) := Rd.nx (by repeat (first | with_reducible exact Sx | with_reducible apply Rd.al | with_reducible apply Rd.dr | with_reducible apply Rd.dr1)) hb
        replace Sy : Rd u8 a1 cap1 (ys) := Rd.nx (by repeat (first | with_reducible exact Sy | with_reducible apply Rd.al | with_reducible apply Rd.dr | with_reducible apply Rd.dr1)) hb
        replace Sz : Rd u8 a2 cap2 (zs) := Rd.nx (by repeat (first | with_reducible exact Sz | with_reducible apply Rd.al | with_reducible apply Rd.dr | with_reducible apply Rd.dr1)) hb
        replace Sp : Rd u8 pp qp (jp) := Rd.nx (by repeat (first | with_reducible exact Sp | with_reducible apply Rd.al | with_reducible apply Rd.dr | with_reducible apply Rd.dr1)) hb
        replace K : Kp w u8 := Kp.nx (by repeat (first | with_reducible exact K | with_reducible apply Kp.al | with_reducible apply Kp.dr | with_reducible apply Kp.dr1)) hb
        have Sq : Rd u8 pq qq (jq) := ho.rd
        clear ho hb
        go_wp2_with fail
        refine (NR.cmp (xs := jp) (ys := jq) (by repeat (first | with_reducible exact Sp | with_reducible apply Rd.al | with_reducible apply Rd.dr | with_reducible apply Rd.dr1)) (by repeat (first | with_reducible exact Sq | with_reducible apply Rd.al | with_reducible apply Rd.dr | with_reducible apply Rd.dr1)) rfl rfl (Nat.le_trans (NR.len_of Hp.out (fx.mul fz)) (by decide)) (Nat.le_trans (NR.len_of Hq.out (fy.mul fz)) (by decide)) (-1) (cmp_lt (by rw [Np.out, Nq.out]; exact mul_lt' H0.out Hc.out))).mono ?_; rintro e w' ⟨rfl, rfl⟩
        go_wp2_with fail
        refine (NR.zero (xs := zs) (by repeat (first | with_reducible exact Sz | with_reducible apply Rd.al | with_reducible apply Rd.dr | with_reducible apply Rd.dr1)) rfl (by omega) false (by have := Hc.out; symm; rw [beq_eq_false_iff_ne]; exact this)).mono ?_; rintro e w' ⟨rfl, rfl⟩
        go_wp2_with fail
        refine (NR.zero (xs := zs) (by repeat (first | with_reducible exact Sz | with_reducible apply Rd.al | with_reducible apply Rd.dr | with_reducible apply Rd.dr1)) rfl (by omega) false (by have := Hc.out; symm; rw [beq_eq_false_iff_ne]; exact this)).mono ?_; rintro e w' ⟨rfl, rfl⟩
        go_wp2_with fail
        go_ret
        exact ⟨rfl, Kp.below (by repeat (first | with_reducible exact K | with_reducible apply Kp.al | with_reducible apply Kp.dr | with_reducible apply Kp.dr1))⟩
      · have hi1 : 0 < i1 := by omega
        clear hi ri1
        go_enter Try.func6, Try.ntmps6
        go_wp2_with fail
        refine (LN.long3 (by simp) false HZ).mono ?_; rintro e w' ⟨rfl, rfl⟩
        go_wp2_with fail
        refine (LN.awake _).mono ?_; rintro e u1 ⟨rfl, hb⟩
        replace Sx : Rd u1 a0 cap0 (xs) := Rd.nx (by repeat (first | with_reducible exact Sx | with_reducible apply Rd.al | with_reducible apply Rd.dr | with_reducible apply Rd.dr1)) hb
        replace Sy : Rd u1 a1 cap1 (ys) := Rd.nx (by repeat (first | with_reducible exact Sy | with_reducible apply Rd.al | with_reducible apply Rd.dr | with_reducible apply Rd.dr1)) hb
        replace Sz : Rd u1 a2 cap2 (zs) := Rd.nx (by repeat (first | with_reducible exact Sz | with_reducible apply Rd.al | with_reducible apply Rd.dr | with_reducible apply Rd.dr1)) hb
        replace K : Kp w u1 := Kp.nx (by repeat (first | with_reducible exact K | with_reducible apply Kp.al | with_reducible apply Kp.dr | with_reducible apply Kp.dr1)) hb
        clear hb
        go_wp2_with fail
        refine (NR.cmp (xs := xs) (ys := ys) (by repeat (first | with_reducible exact Sx | with_reducible apply Rd.al | with_reducible apply Rd.dr | with_reducible apply Rd.dr1)) (by repeat (first | with_reducible exact Sy | with_reducible apply Rd.al | with_reducible apply Rd.dr | with_reducible apply Rd.dr1)) rfl rfl (by omega) (by omega) (-1) (cmp_lt H0.out)).mono ?_; rintro e w' ⟨rfl, rfl⟩
        go_wp2_with fail
        refine (NR.cmp (xs := ys) (ys := xs) (by repeat (first | with_reducible exact Sy | with_reducible apply Rd.al | with_reducible apply Rd.dr | with_reducible apply Rd.dr1)) (by repeat (first | with_reducible exact Sx | with_reducible apply Rd.al | with_reducible apply Rd.dr | with_reducible apply Rd.dr1)) rfl rfl (by omega) (by omega) (1) (cmp_gt (by have := H0.out; omega))).mono ?_; rintro e w' ⟨rfl, rfl⟩
        obtain ⟨ja, hja⟩ : ∃ z : List Nat, z = L ((V xs) + (V zs)) := ⟨_, rfl⟩
        have Na : Hid (V ja = (V xs) + (V zs)) := Lib.hid (by rw [hja, V_L])
        have Ha := Lib.hid hja; clear hja
        go_wp2_with fail
        refine (NR.add (xs := xs) (ys := zs) (zs := ja) (by repeat (first | with_reducible exact Sx | with_reducible apply Rd.al | with_reducible apply Rd.dr | with_reducible apply Rd.dr1)) (by repeat (first | with_reducible exact Sz | with_reducible apply Rd.al | with_reducible apply Rd.dr | with_reducible apply Rd.dr1)) rfl rfl (by omega) (by omega)  (Ha.out.trans (congrArg L (by first | with_reducible rfl | simp only [LN.V_nil, LN.V_one])))).mono ?_; rintro e u2 ⟨pa, qa, rfl, ho, hb⟩
        replace Sx : Rd u2 a0 cap0 (xs) := Rd.nx (by repeat (first | with_reducible exact Sx | with_reducible apply Rd.al | with_reducible apply Rd.dr | with_reducible apply Rd.dr1)) hb
        replace Sy : Rd u2 a1 cap1 (ys) := Rd.nx (by repeat (first | with_reducible exact Sy | with_reducible apply Rd.al | with_reducible apply Rd.dr | with_reducible apply Rd.dr1)) hb
        replace Sz : Rd u2 a2 cap2 (zs) := Rd.nx (by repeat (first | with_reducible exact Sz | with_reducible apply Rd.al | with_reducible apply Rd.dr | with_reducible apply Rd.dr1)) hb
        replace K : Kp w u2 := Kp.nx (by repeat (first | with_reducible exact K | with_reducible apply Kp.al | with_reducible apply Kp.dr | with_reducible apply Kp.dr1)) hb
        have Sa : Rd u2 pa qa (ja) := ho.rd
        clear ho hb
        obtain ⟨jb, hjb⟩ : ∃ z : List Nat, z = L ((V ys) + (V zs)) := ⟨_, rfl⟩
        have Nb : Hid (V jb = (V ys) + (V zs)) := Lib.hid (by rw [hjb, V_L])
        have Hb := Lib.hid hjb; clear hjb
        go_wp2_with fail
        refine (NR.add (xs := ys) (ys := zs) (zs := jb) (by repeat (first | with_reducible exact Sy | with_reducible apply Rd.al | with_reducible apply Rd.dr | with_reducible apply Rd.dr1)) (by repeat (first | with_reducible exact Sz | with_reducible apply Rd.al | with_reducible apply Rd.dr | with_reducible apply Rd.dr1)) rfl rfl (by omega) (by omega)  (Hb.out.trans (congrArg L (by first | with_reducible rfl | simp only [LN.V_nil, LN.V_one])))).mono ?_; rintro e u3 ⟨pb, qb, rfl, ho, hb⟩
        replace Sx : Rd u3 a0 cap0 (xs) := Rd.nx (by repeat (first | with_reducible exact Sx | with_reducible apply Rd.al | with_reducible apply Rd.dr | with_reducible apply Rd.dr1)) hb
        replace Sy : Rd u3 a1 cap1 (ys) := Rd.nx (by repeat (first | with_reducible exact Sy | with_reducible apply Rd.al | with_reducible apply Rd.dr | with_reducible apply Rd.dr1)) hb
        replace Sz : Rd u3 a2 cap2 (zs) := Rd.nx (by repeat (first | with_reducible exact Sz | with_reducible apply Rd.al | with_reducible apply Rd.dr | with_reducible apply Rd.dr1)) hb
        replace Sa : Rd u3 pa qa (ja) := Rd.nx (by repeat (first | with_reducible exact Sa | with_reducible apply Rd.al | with_reducible apply Rd.dr | with_reducible apply Rd.dr1)) hb
        replace K : Kp w u3 := Kp.nx (by repeat (first | with_reducible exact K | with_reducible apply Kp.al | with_reducible apply Kp.dr | with_reducible apply Kp.dr1)) hb
        have Sb : Rd u3 pb qb (jb) := ho.rd
        clear ho hb
        go_wp2_with fail
        refine (NR.cmp (xs := ja) (ys := jb) (by repeat (first | with_reducible exact Sa | with_reducible apply Rd.al | with_reducible apply Rd.dr | with_reducible apply Rd.dr1)) (by repeat (first | with_reducible exact Sb | with_reducible apply Rd.al | with_reducible apply Rd.dr | with_reducible apply Rd.dr1)) rfl rfl (Nat.le_trans (NR.len_of Ha.out (fx.add fz)) (by decide)) (Nat.le_trans (NR.len_of Hb.out (fy.add fz)) (by decide)) (-1) (cmp_lt (by rw [Na.out, Nb.out]; have := H0.out; omega))).mono ?_; rintro e w' ⟨rfl, rfl⟩
        obtain ⟨jt, hjt⟩ : ∃ z : List Nat, z = L (V xs) := ⟨_, rfl⟩
        have Nt : Hid (V jt = V xs) := Lib.hid (by rw [hjt, V_L])
        have Ht := Lib.hid hjt; clear hjt
        go_wp2_with fail
        refine (NR.trim (xs := xs) (zs := jt) (by repeat (first | with_reducible exact Sx | with_reducible apply Rd.al | with_reducible apply Rd.dr | with_reducible apply Rd.dr1)) rfl (by omega)  (Ht.out.trans (congrArg L (by first | with_reducible rfl | simp only [LN.V_nil, LN.V_one])))).mono ?_; rintro e u4 ⟨pt, qt, rfl, ho, hb⟩
        replace Sx : Rd u4 a0 cap0 (xs) := Rd.nx (by repeat (first | with_reducible exact Sx | with_reducible apply Rd.al | with_reducible apply Rd.dr | with_reducible apply Rd.dr1)) hb
        replace Sy : Rd u4 a1 cap1 (ys) := Rd.nx (by repeat (first | with_reducible exact Sy | with_reducible apply Rd.al | with_reducible apply Rd.dr | with_reducible apply Rd.dr1)) hb
        replace Sz : Rd u4 a2 cap2 (zs) := Rd.nx (by repeat (first | with_reducible exact Sz | with_reducible apply Rd.al | with_reducible apply Rd.dr | with_reducible apply Rd.dr1)) hb
        replace Sa : Rd u4 pa qa (ja) := Rd.nx (by repeat (first | with_reducible exact Sa | with_reducible apply Rd.al | with_reducible apply Rd.dr | with_reducible apply Rd.dr1)) hb
        replace Sb : Rd u4 pb qb (jb) := Rd.nx (by repeat (first | with_reducible exact Sb | with_reducible apply Rd.al | with_reducible apply Rd.dr | with_reducible apply Rd.dr1)) hb
        replace K : Kp w u4 := Kp.nx (by repeat (first | with_reducible exact K | with_reducible apply Kp.al | with_reducible apply Kp.dr | with_reducible apply Kp.dr1)) hb
        have St : Rd u4 pt qt (jt) := ho.rd
        clear ho hb
        obtain ⟨jt2, hjt2⟩ : ∃ z : List Nat, z = L (V ys) := ⟨_, rfl⟩
        have Nt2 : Hid (V jt2 = V ys) := Lib.hid (by rw [hjt2, V_L])
        have Ht2 := Lib.hid hjt2; clear hjt2
        go_wp2_with fail
        refine (NR.trim (xs := ys) (zs := jt2) (by repeat (first | with_reducible exact Sy | with_reducible apply Rd.al | with_reducible apply Rd.dr | with_reducible apply Rd.dr1)) rfl (by omega)  (Ht2.out.trans (congrArg L (by first | with_reducible rfl | simp only [LN.V_nil, LN.V_one])))).mono ?_; rintro e u5 ⟨pt2, qt2, rfl, ho, hb⟩
        replace Sx : Rd u5 a0 cap0 (xs) := Rd.nx (by repeat (first | with_reducible exact Sx | with_reducible apply Rd.al | with_reducible apply Rd.dr | with_reducible apply Rd.dr1)) hb
        replace Sy : Rd u5 a1 cap1 (ys) := Rd.nx (by repeat (first | with_reducible exact Sy | with_reducible apply Rd.al | with_reducible apply Rd.dr | with_reducible apply Rd.dr1)) hb
        replace Sz : Rd u5 a2 cap2 (zs) := Rd.nx (by repeat (first | with_reducible exact Sz | with_reducible apply Rd.al | with_reducible apply Rd.dr | with_reducible apply Rd.dr1)) hb
        replace Sa : Rd u5 pa qa (ja) := Rd.nx (by repeat (first | with_reducible exact Sa | with_reducible apply Rd.al | with_reducible apply Rd.dr | with_reducible apply Rd.dr1)) hb
        replace Sb : Rd u5 pb qb (jb) := Rd.nx (by repeat (first | with_reducible exact Sb | with_reducible apply Rd.al | with_reducible apply Rd.dr | with_reducible apply Rd.dr1)) hb
        replace St : Rd u5 pt qt (jt) := Rd.nx (by repeat (first | with_reducible exact St | with_reducible apply Rd.al | with_reducible apply Rd.dr | with_reducible apply Rd.dr1)) hb
        replace K : Kp w u5 := Kp.nx (by repeat (first | with_reducible exact K | with_reducible apply Kp.al | with_reducible apply Kp.dr | with_reducible apply Kp.dr1)) hb
        have St2 : Rd u5 pt2 qt2 (jt2) := ho.rd
        clear ho hb
        go_wp2_with fail
        refine (NR.same (xs := jt) (ys := jt2) (by repeat (first | with_reducible exact St | with_reducible apply Rd.al | with_reducible apply Rd.dr | with_reducible apply Rd.dr1)) (by repeat (first | with_reducible exact St2 | with_reducible apply Rd.al | with_reducible apply Rd.dr | with_reducible apply Rd.dr1)) rfl rfl (Nat.le_trans (NR.len_of Ht.out fx) (by decide)) false (by have := H0.out; rw [Ht.out, Ht2.out]; symm; rw [beq_eq_false_iff_ne]; intro e; have := L_inj e; omega)).mono ?_; rintro e u6 ⟨rfl, hb⟩
        replace Sx : Rd u6 a0 cap0 (xs) := Rd.nx (by repeat (first | with_reducible exact Sx | with_reducible apply Rd.al | with_reducible apply Rd.dr | with_reducible apply Rd.dr1)) hb
        replace Sy : Rd u6 a1 cap1 (ys) := Rd.nx (by repeat (first | with_reducible exact Sy | with_reducible apply Rd.al | with_reducible apply Rd.dr | with_reducible apply Rd.dr1)) hb
        replace Sz : Rd u6 a2 cap2 (zs) := Rd.nx (by repeat (first | with_reducible exact Sz | with_reducible apply Rd.al | with_reducible apply Rd.dr | with_reducible apply Rd.dr1)) hb
        replace Sa : Rd u6 pa qa (ja) := Rd.nx (by repeat (first | with_reducible exact Sa | with_reducible apply Rd.al | with_reducible apply Rd.dr | with_reducible apply Rd.dr1)) hb
        replace Sb : Rd u6 pb qb (jb) := Rd.nx (by repeat (first | with_reducible exact Sb | with_reducible apply Rd.al | with_reducible apply Rd.dr | with_reducible apply Rd.dr1)) hb
        replace St : Rd u6 pt qt (jt) := Rd.nx (by repeat (first | with_reducible exact St | with_reducible apply Rd.al | with_reducible apply Rd.dr | with_reducible apply Rd.dr1)) hb
        replace St2 : Rd u6 pt2 qt2 (jt2) := Rd.nx (by repeat (first | with_reducible exact St2 | with_reducible apply Rd.al | with_reducible apply Rd.dr | with_reducible apply Rd.dr1)) hb
        replace K : Kp w u6 := Kp.nx (by repeat (first | with_reducible exact K | with_reducible apply Kp.al | with_reducible apply Kp.dr | with_reducible apply Kp.dr1)) hb
        clear hb
        clear Sa
        clear Sb
        clear St
        clear St2
        go_wp2_with fail
        refine (NR.cmp (xs := ys) (ys := zs) (by repeat (first | with_reducible exact Sy | with_reducible apply Rd.al | with_reducible apply Rd.dr | with_reducible apply Rd.dr1)) (by repeat (first | with_reducible exact Sz | with_reducible apply Rd.al | with_reducible apply Rd.dr | with_reducible apply Rd.dr1)) rfl rfl (by omega) (by omega) (i1) Hi1.out).mono ?_; rintro e w' ⟨rfl, rfl⟩
        obtain ⟨jp, hjp⟩ : ∃ z : List Nat, z = L ((V xs) * (V zs)) := ⟨_, rfl⟩
        have Np : Hid (V jp = (V xs) * (V zs)) := Lib.hid (by rw [hjp, V_L])
        have Hp := Lib.hid hjp; clear hjp
        go_wp2_with fail
        refine (NR.mul (xs := xs) (ys := zs) (zs := jp) (by repeat (first | with_reducible exact Sx | with_reducible apply Rd.al | with_reducible apply Rd.dr | with_reducible apply Rd.dr1)) (by repeat (first | with_reducible exact Sz | with_reducible apply Rd.al | with_reducible apply Rd.dr | with_reducible apply Rd.dr1)) rfl rfl (by omega) (by omega)  (Hp.out.trans (congrArg L (by first | with_reducible rfl | simp only [LN.V_nil, LN.V_one])))).mono ?_; rintro e u7 ⟨pp, qp, rfl, ho, hb⟩
        replace Sx : Rd u7 a0 cap0 (xs) := Rd.nx (by repeat (first | with_reducible exact Sx | with_reducible apply Rd.al | with_reducible apply Rd.dr | with_reducible apply Rd.dr1)) hb
        replace Sy : Rd u7 a1 cap1 (ys) := Rd.nx (by repeat (first | with_reducible exact Sy | with_reducible apply Rd.al | with_reducible apply Rd.dr | with_reducible apply Rd.dr1)) hb
        replace Sz : Rd u7 a2 cap2 (zs) := Rd.nx (by repeat (first | with_reducible exact Sz | with_reducible apply Rd.al | with_reducible apply Rd.dr | with_reducible apply Rd.dr1)) hb
        replace K : Kp w u7 := Kp.nx (by repeat (first | with_reducible exact K | with_reducible apply Kp.al | with_reducible apply Kp.dr | with_reducible apply Kp.dr1)) hb
        have Sp : Rd u7 pp qp (jp) := ho.rd
        clear ho hb
        obtain ⟨jq, hjq⟩ : ∃ z : List Nat, z = L ((V ys) * (V zs)) := ⟨_, rfl⟩
        have Nq : Hid (V jq = (V ys) * (V zs)) := Lib.hid (by rw [hjq, V_L])
        have Hq := Lib.hid hjq; clear hjq
        go_wp2_with fail
        refine (NR.mul (xs := ys) (ys := zs) (zs := jq) (by repeat (first | with_reducible exact Sy | with_reducible apply Rd.al | with_reducible apply Rd.dr | with_reducible apply Rd.dr1)) (by repeat (first | with_reducible exact Sz | with_reducible apply Rd.al | with_reducible apply Rd.dr | with_reducible apply Rd.dr1)) rfl rfl (by omega) (by omega)  (Hq.out.trans (congrArg L (by first | with_reducible rfl | simp only [LN.V_nil, LN.V_one])))).mono ?_; rintro e u8 ⟨pq, qq, rfl, ho, hb⟩
        replace Sx : Rd u8 a0 cap0 (xs) := Rd.nx (by repeat (first | with_reducible exact Sx | with_reducible apply Rd.al | with_reducible apply Rd.dr | with_reducible apply Rd.dr1)) hb
        replace Sy : Rd u8 a1 cap1 (ys) := Rd.nx (by repeat (first | with_reducible exact Sy | with_reducible apply Rd.al | with_reducible apply Rd.dr | with_reducible apply Rd.dr1)) hb
        replace Sz : Rd u8 a2 cap2 (zs) := Rd.nx (by repeat (first | with_reducible exact Sz | with_reducible apply Rd.al | with_reducible apply Rd.dr | with_reducible apply Rd.dr1)) hb
        replace Sp : Rd u8 pp qp (jp) := Rd.nx (by repeat (first | with_reducible exact Sp | with_reducible apply Rd.al | with_reducible apply Rd.dr | with_reducible apply Rd.dr1)) hb
        replace K : Kp w u8 := Kp.nx (by repeat (first | with_reducible exact K | with_reducible apply Kp.al | with_reducible apply Kp.dr | with_reducible apply Kp.dr1)) hb
        have Sq : Rd u8 pq qq (jq) := ho.rd
        clear ho hb
        go_wp2_with fail
        refine (NR.cmp (xs := jp) (ys := jq) (by repeat (first | with_reducible exact Sp | with_reducible apply Rd.al | with_reducible apply Rd.dr | with_reducible apply Rd.dr1)) (by repeat (first | with_reducible exact Sq | with_reducible apply Rd.al | with_reducible apply Rd.dr | with_reducible apply Rd.dr1)) rfl rfl (Nat.le_trans (NR.len_of Hp.out (fx.mul fz)) (by decide)) (Nat.le_trans (NR.len_of Hq.out (fy.mul fz)) (by decide)) (-1) (cmp_lt (by rw [Np.out, Nq.out]; exact mul_lt' H0.out Hc.out))).mono ?_; rintro e w' ⟨rfl, rfl⟩
        go_wp2_with fail
        refine (NR.zero (xs := zs) (by repeat (first | with_reducible exact Sz | with_reducible apply Rd.al | with_reducible apply Rd.dr | with_reducible apply Rd.dr1)) rfl (by omega) false (by have := Hc.out; symm; rw [beq_eq_false_iff_ne]; exact this)).mono ?_; rintro e w' ⟨rfl, rfl⟩
        go_wp2_with fail
        refine (NR.zero (xs := zs) (by repeat (first | with_reducible exact Sz | with_reducible apply Rd.al | with_reducible apply Rd.dr | with_reducible apply Rd.dr1)) rfl (by omega) false (by have := Hc.out; symm; rw [beq_eq_false_iff_ne]; exact this)).mono ?_; rintro e w' ⟨rfl, rfl⟩
        go_wp2_with fail
        go_ret
        exact ⟨rfl, Kp.below (by repeat (first | with_reducible exact K | with_reducible apply Kp.al | with_reducible apply Kp.dr | with_reducible apply Kp.dr1))⟩
  · have H0 := Lib.hid h0; clear h0
    by_cases hc : V zs = 0
    · have Hc := Lib.hid hc; clear hc
      by_cases hi : i1 ≤ 0
      · have hle := ri1 hi
        obtain ⟨i2, hi2, ri2⟩ : ∃ z : Int, z = NT.cmpI (V xs) (V zs) ∧ z ≤ 0 := ⟨_, rfl, by have := H0.out; unfold NT.cmpI; split <;> (try split) <;> omega⟩
        have Hi2 := Lib.hid hi2; clear hi2
        clear hle ri1
        go_enter Try.func6, Try.ntmps6
        go_wp2_with fail
        refine (LN.long3 (by simp) false HZ).mono ?_; rintro e w' ⟨rfl, rfl⟩
        go_wp2_with fail
        refine (LN.awake _).mono ?_; rintro e u1 ⟨rfl, hb⟩
        replace Sx : Rd u1 a0 cap0 (xs) := Rd.nx (by repeat (first | with_reducible exact Sx | with_reducible apply Rd.al | with_reducible apply Rd.dr | with_reducible apply Rd.dr1)) hb
        replace Sy : Rd u1 a1 cap1 (ys) := Rd.nx (by repeat (first | with_reducible exact Sy | with_reducible apply Rd.al | with_reducible apply Rd.dr | with_reducible apply Rd.dr1)) hb
        replace Sz : Rd u1 a2 cap2 (zs) := Rd.nx (by repeat (first | with_reducible exact Sz | with_reducible apply Rd.al | with_reducible apply Rd.dr | with_reducible apply Rd.dr1)) hb
        replace K : Kp w u1 := Kp.nx (by repeat (first | with_reducible exact K | with_reducible apply Kp.al | with_reducible apply Kp.dr | with_reducible apply Kp.dr1)) hb
        clear hb
        go_wp2_with fail
        refine (NR.cmp (xs := xs) (ys := ys) (by repeat (first | with_reducible exact Sx | with_reducible apply Rd.al | with_reducible apply Rd.dr | with_reducible apply Rd.dr1)) (by repeat (first | with_reducible exact Sy | with_reducible apply Rd.al | with_reducible apply Rd.dr | with_reducible apply Rd.dr1)) rfl rfl (by omega) (by omega) (0) (cmp_eq H0.out)).mono ?_; rintro e w' ⟨rfl, rfl⟩
        go_wp2_with fail
        refine (NR.cmp (xs := ys) (ys := xs) (by repeat (first | with_reducible exact Sy | with_reducible apply Rd.al | with_reducible apply Rd.dr | with_reducible apply Rd.dr1)) (by repeat (first | with_reducible exact Sx | with_reducible apply Rd.al | with_reducible apply Rd.dr | with_reducible apply Rd.dr1)) rfl rfl (by omega) (by omega) (0) (cmp_eq (by have := H0.out; omega))).mono ?_; rintro e w' ⟨rfl, rfl⟩
        obtain ⟨ja, hja⟩ : ∃ z : List Nat, z = L ((V xs) + (V zs)) := ⟨_, rfl⟩
        have Na : Hid (V ja = (V xs) + (V zs)) := Lib.hid (by rw [hja, V_L])
        have Ha := Lib.hid hja; clear hja
        go_wp2_with fail
        refine (NR.add (xs := xs) (ys := zs) (zs := ja) (by repeat (first | with_reducible exact Sx | with_reducible apply Rd.al | with_reducible apply Rd.dr | with_reducible apply Rd.dr1)) (by repeat (first | with_reducible exact Sz | with_reducible apply Rd.al | with_reducible apply Rd.dr | with_reducible apply Rd.dr1)) rfl rfl (by omega) (by omega)  (Ha.out.trans (congrArg L (by first | with_reducible rfl | simp only [LN.V_nil, LN.V_one])))).mono ?_; rintro e u2 ⟨pa, qa, rfl, ho, hb⟩
        replace Sx : Rd u2 a0 cap0 (xs) := Rd.nx (by repeat (first | with_reducible exact Sx | with_reducible apply Rd.al | with_reducible apply Rd.dr | with_reducible apply Rd.dr1)) hb
        replace Sy : Rd u2 a1 cap1 (ys) := Rd.nx (by repeat (first | with_reducible exact Sy | with_reducible apply Rd.al | with_reducible apply Rd.dr | with_reducible apply Rd.dr1)) hb
        replace Sz : Rd u2 a2 cap2 (zs) := Rd.nx (by repeat (first | with_reducible exact Sz | with_reducible apply Rd.al | with_reducible apply Rd.dr | with_reducible apply Rd.dr1)) hb
        replace K : Kp w u2 := Kp.nx (by repeat (first | with_reducible exact K | with_reducible apply Kp.al | with_reducible apply Kp.dr | with_reducible apply Kp.dr1)) hb
        have Sa : Rd u2 pa qa (ja) := ho.rd
        clear ho hb
        obtain ⟨jb, hjb⟩ : ∃ z : List Nat, z = L ((V ys) + (V zs)) := ⟨_, rfl⟩
        have Nb : Hid (V jb = (V ys) + (V zs)) := Lib.hid (by rw [hjb, V_L])
        have Hb := Lib.hid hjb; clear hjb
        go_wp2_with fail
        refine (NR.add (xs := ys) (ys := zs) (zs := jb) (by repeat (first | with_reducible exact Sy | with_reducible apply Rd.al | with_reducible apply Rd.dr | with_reducible apply Rd.dr1)) (by repeat (first | with_reducible exact Sz | with_reducible apply Rd.al | with_reducible apply Rd.dr | with_reducible apply Rd.dr1)) rfl rfl (by omega) (by omega)  (Hb.out.trans (congrArg L (by first | with_reducible rfl | simp only [LN.V_nil, LN.V_one])))).mono ?_; rintro e u3 ⟨pb, qb, rfl, ho, hb⟩
        replace Sx : Rd u3 a0 cap0 (xs) := Rd.nx (by repeat (first | with_reducible exact Sx | with_reducible apply Rd.al | with_reducible apply Rd.dr | with_reducible apply Rd.dr1)) hb
        replace Sy : Rd u3 a1 cap1 (ys) := Rd.nx (by repeat (first | with_reducible exact Sy | with_reducible apply Rd.al | with_reducible apply Rd.dr | with_reducible apply Rd.dr1)) hb
        replace Sz : Rd u3 a2 cap2 (zs) := Rd.nx (by repeat (first | with_reducible exact Sz | with_reducible apply Rd.al | with_reducible apply Rd.dr | with_reducible apply Rd.dr1)) hb
        replace Sa : Rd u3 pa qa (ja) := Rd.nx (by repeat (first | with_reducible exact Sa | with_reducible apply Rd.al | with_reducible apply Rd.dr | with_reducible apply Rd.dr1)) hb
        replace K : Kp w u3 := Kp.nx (by repeat (first | with_reducible exact K | with_reducible apply Kp.al | with_reducible apply Kp.dr | with_reducible apply Kp.dr1)) hb
        have Sb : Rd u3 pb qb (jb) := ho.rd
        clear ho hb
        go_wp2_with fail
        refine (NR.cmp (xs := ja) (ys := jb) (by repeat (first | with_reducible exact Sa | with_reducible apply Rd.al | with_reducible apply Rd.dr | with_reducible apply Rd.dr1)) (by repeat (first | with_reducible exact Sb | with_reducible apply Rd.al | with_reducible apply Rd.dr | with_reducible apply Rd.dr1)) rfl rfl (Nat.le_trans (NR.len_of Ha.out (fx.add fz)) (by decide)) (Nat.le_trans (NR.len_of Hb.out (fy.add fz)) (by decide)) (0) (cmp_eq (by rw [Na.out, Nb.out]; have := H0.out; omega))).mono ?_; rintro e w' ⟨rfl, rfl⟩
        obtain ⟨jt, hjt⟩ : ∃ z : List Nat, z = L (V xs) := ⟨_, rfl⟩
        have Nt : Hid (V jt = V xs) := Lib.hid (by rw [hjt, V_L])
        have Ht := Lib.hid hjt; clear hjt
        go_wp2_with fail
        refine (NR.trim (xs := xs) (zs := jt) (by repeat (first | with_reducible exact Sx | with_reducible apply Rd.al | with_reducible apply Rd.dr | with_reducible apply Rd.dr1)) rfl (by omega)  (Ht.out.trans (congrArg L (by first | with_reducible rfl | simp only [LN.V_nil, LN.V_one])))).mono ?_; rintro e u4 ⟨pt, qt, rfl, ho, hb⟩
        replace Sx : Rd u4 a0 cap0 (xs) := Rd.nx (by repeat (first | with_reducible exact Sx | with_reducible apply Rd.al | with_reducible apply Rd.dr | with_reducible apply Rd.dr1)) hb
        replace Sy : Rd u4 a1 cap1 (ys) := Rd.nx (by repeat (first | with_reducible exact Sy | with_reducible apply Rd.al | with_reducible apply Rd.dr | with_reducible apply Rd.dr1)) hb
        replace Sz : Rd u4 a2 cap2 (zs) := Rd.nx (by repeat (first | with_reducible exact Sz | with_reducible apply Rd.al | with_reducible apply Rd.dr | with_reducible apply Rd.dr1)) hb
        replace Sa : Rd u4 pa qa (ja) := Rd.nx (by repeat (first | with_reducible exact Sa | with_reducible apply Rd.al | with_reducible apply Rd.dr | with_reducible apply Rd.dr1)) hb
        replace Sb : Rd u4 pb qb (jb) := Rd.nx (by repeat (first | with_reducible exact Sb | with_reducible apply Rd.al | with_reducible apply Rd.dr | with_reducible apply Rd.dr1)) hb
        replace K : Kp w u4 := Kp.nx (by repeat (first | with_reducible exact K | with_reducible apply Kp.al | with_reducible apply Kp.dr | with_reducible apply Kp.dr1)) hb
        have St : Rd u4 pt qt (jt) := ho.rd
        clear ho hb
        obtain ⟨jt2, hjt2⟩ : ∃ z : List Nat, z = L (V ys) := ⟨_, rfl⟩
        have Nt2 : Hid (V jt2 = V ys) := Lib.hid (by rw [hjt2, V_L])
        have Ht2 := Lib.hid hjt2; clear hjt2
        go_wp2_with fail
        refine (NR.trim (xs := ys) (zs := jt2) (by repeat (first | with_reducible exact Sy | with_reducible apply Rd.al | with_reducible apply Rd.dr | with_reducible apply Rd.dr1)) rfl (by omega)  (Ht2.out.trans (congrArg L (by first | with_reducible rfl | simp only [LN.V_nil, LN.V_one])))).mono ?_; rintro e u5 ⟨pt2, qt2, rfl, ho, hb⟩
        replace Sx : Rd u5 a0 cap0 (xs) := Rd.nx (by repeat (first | with_reducible exact Sx | with_reducible apply Rd.al | with_reducible apply Rd.dr | with_reducible apply Rd.dr1)) hb
        replace Sy : Rd u5 a1 cap1 (ys) := Rd.nx (by repeat (first | with_reducible exact Sy | with_reducible apply Rd.al | with_reducible apply Rd.dr | with_reducible apply Rd.dr1)) hb
        replace Sz : Rd u5 a2 cap2 (zs) := Rd.nx (by repeat (first | with_reducible exact Sz | with_reducible apply Rd.al | with_reducible apply Rd.dr | with_reducible apply Rd.dr1)) hb
        replace Sa : Rd u5 pa qa (ja) := Rd.nx (by repeat (first | with_reducible exact Sa | with_reducible apply Rd.al | with_reducible apply Rd.dr | with_reducible apply Rd.dr1)) hb
        replace Sb : Rd u5 pb qb (jb) := Rd.nx (by repeat (first | with_reducible exact Sb | with_reducible apply Rd.al | with_reducible apply Rd.dr | with_reducible apply Rd.dr1)) hb
        replace St : Rd u5 pt qt (jt) := Rd.nx (by repeat (first | with_reducible exact St | with_reducible apply Rd.al | with_reducible apply Rd.dr | with_reducible apply Rd.dr1)) hb
        replace K : Kp w u5 := Kp.nx (by repeat (first | with_reducible exact K | with_reducible apply Kp.al | with_reducible apply Kp.dr | with_reducible apply Kp.dr1)) hb
        have St2 : Rd u5 pt2 qt2 (jt2) := ho.rd
        clear ho hb
        go_wp2_with fail
        refine (NR.same_yes (xs := jt) (ys := jt2) (by repeat (first | with_reducible exact St | with_reducible apply Rd.al | with_reducible apply Rd.dr | with_reducible apply Rd.dr1)) (by repeat (first | with_reducible exact St2 | with_reducible apply Rd.al | with_reducible apply Rd.dr | with_reducible apply Rd.dr1)) rfl rfl (Nat.le_trans (NR.len_of Ht.out fx) (by decide)) (Ht.out.trans ((congrArg L (by have := H0.out; omega)).trans Ht2.out.symm))).mono ?_; rintro e u6 ⟨rfl, hb⟩
        replace Sx : Rd u6 a0 cap0 (xs) := Rd.nx (by repeat (first | with_reducible exact Sx | with_reducible apply Rd.al | with_reducible apply Rd.dr | with_reducible apply Rd.dr1)) hb
        replace Sy : Rd u6 a1 cap1 (ys) := Rd.nx (by repeat (first | with_reducible exact Sy | with_reducible apply Rd.al | with_reducible apply Rd.dr | with_reducible apply Rd.dr1)) hb
        replace Sz : Rd u6 a2 cap2 (zs) := Rd.nx (by repeat (first | with_reducible exact Sz | with_reducible apply Rd.al | with_reducible apply Rd.dr | with_reducible apply Rd.dr1)) hb
        replace Sa : Rd u6 pa qa (ja) := Rd.nx (by repeat (first | with_reducible exact Sa | with_reducible apply Rd.al | with_reducible apply Rd.dr | with_reducible apply Rd.dr1)) hb
        replace Sb : Rd u6 pb qb (jb) := Rd.nx (by repeat (first | with_reducible exact Sb | with_reducible apply Rd.al | with_reducible apply Rd.dr | with_reducible apply Rd.dr1)) hb
        replace St : Rd u6 pt qt (jt) := Rd.nx (by repeat (first | with_reducible exact St | with_reducible apply Rd.al | with_reducible apply Rd.dr | with_reducible apply Rd.dr1)) hb
        replace St2 : Rd u6 pt2 qt2 (jt2) := Rd.nx (by repeat (first | with_reducible exact St2 | with_reducible apply Rd.al | with_reducible apply Rd.dr | with_reducible apply Rd.dr1)) hb
        replace K : Kp w u6 := Kp.nx (by repeat (first | with_reducible exact K | with_reducible apply Kp.al | with_reducible apply Kp.dr | with_reducible apply Kp.dr1)) hb
        clear hb
        clear Sa
        clear Sb
        clear St
        clear St2
        go_wp2_with fail
        refine (NR.cmp (xs := ys) (ys := zs) (by repeat (first | with_reducible exact Sy | with_reducible apply Rd.al | with_reducible apply Rd.dr | with_reducible apply Rd.dr1)) (by repeat (first | with_reducible exact Sz | with_reducible apply Rd.al | with_reducible apply Rd.dr | with_reducible apply Rd.dr1)) rfl rfl (by omega) (by omega) (i1) Hi1.out).mono ?_; rintro e w' ⟨rfl, rfl⟩
        go_wp2_with fail
        refine (NR.cmp (xs := xs) (ys := zs) (by repeat (first | with_reducible exact Sx | with_reducible apply Rd.al | with_reducible apply Rd.dr | with_reducible apply Rd.dr1)) (by repeat (first | with_reducible exact Sz | with_reducible apply Rd.al | with_reducible apply Rd.dr | with_reducible apply Rd.dr1)) rfl rfl (by omega) (by omega) (i2) Hi2.out).mono ?_; rintro e w' ⟨rfl, rfl⟩
        obtain ⟨jp, hjp⟩ : ∃ z : List Nat, z = L ((V xs) * (V zs)) := ⟨_, rfl⟩
        have Np : Hid (V jp = (V xs) * (V zs)) := Lib.hid (by rw [hjp, V_L])
        have Hp := Lib.hid hjp; clear hjp
        go_wp2_with fail
        refine (NR.mul (xs := xs) (ys := zs) (zs := jp) (by repeat (first | with_reducible exact Sx | with_reducible apply Rd.al | with_reducible apply Rd.dr | with_reducible apply Rd.dr1)) (by repeat (first | with_reducible exact Sz | with_reducible apply Rd.al | with_reducible apply Rd.dr | with_reducible apply Rd.dr1)) rfl rfl (by omega) (by omega)  (Hp.out.trans (congrArg L (by first | with_reducible rfl | simp only [LN.V_nil, LN.V_one])))).mono ?_; rintro e u7 ⟨pp, qp, rfl, ho, hb⟩
        replace Sx : Rd u7 a0 cap0 (xs) := Rd.nx (by repeat (first | with_reducible exact Sx | with_reducible apply Rd.al | with_reducible apply Rd.dr | with_reducible apply Rd.dr1)) hb
        replace Sy : Rd u7 a1 cap1 (ys) := Rd.nx (by repeat (first | with_reducible exact Sy | with_reducible apply Rd.al | with_reducible apply Rd.dr | with_reducible apply Rd.dr1)) hb
        replace Sz : Rd u7 a2 cap2 (zs) := Rd.nx (by repeat (first | with_reducible exact Sz | with_reducible apply Rd.al | with_reducible apply Rd.dr | with_reducible apply Rd.dr1)) hb
        replace K : Kp w u7 := Kp.nx (by repeat (first | with_reducible exact K | with_reducible apply Kp.al | with_reducible apply Kp.dr | with_reducible apply Kp.dr1)) hb
        have Sp : Rd u7 pp qp (jp) := ho.rd
        clear ho hb
        obtain ⟨jq, hjq⟩ : ∃ z : List Nat, z = L ((V ys) * (V zs)) := ⟨_, rfl⟩
        have Nq : Hid (V jq = (V ys) * (V zs)) := Lib.hid (by rw [hjq, V_L])
        have Hq := Lib.hid hjq; clear hjq
        go_wp2_with fail
        refine (NR.mul (xs := ys) (ys := zs) (zs := jq) (by repeat (first | with_reducible exact Sy | with_reducible apply Rd.al | with_reducible apply Rd.dr | with_reducible apply Rd.dr1)) (by repeat (first | with_reducible exact Sz | with_reducible apply Rd.al | with_reducible apply Rd.dr | with_reducible apply Rd.dr1)) rfl rfl (by omega) (by omega)  (Hq.out.trans (congrArg L (by first | with_reducible rfl | simp only [LN.V_nil, LN.V_one])))).mono ?_; rintro e u8 ⟨pq, qq, rfl, ho, hb⟩
        replace Sx : Rd u8 a0 cap0 (xs) := Rd.nx (by repeat (first | with_reducible exact Sx | with_reducible apply Rd.al | with_reducible apply Rd.dr | with_reducible apply Rd.dr1)) hb
        replace Sy : Rd u8 a1 cap1 (ys) := Rd.nx (by repeat (first | with_reducible exact Sy | with_reducible apply Rd.al | with_reducible apply Rd.dr | with_reducible apply Rd.dr1)) hb
        replace Sz : Rd u8 a2 cap2 (zs) := Rd.nx (by repeat (first | with_reducible exact Sz | with_reducible apply Rd.al | with_reducible apply Rd.dr | with_reducible apply Rd.dr1)) hb
        replace Sp : Rd u8 pp qp (jp) := Rd.nx (by repeat (first | with_reducible exact Sp | with_reducible apply Rd.al | with_reducible apply Rd.dr | with_reducible apply Rd.dr1)) hb
        replace K : Kp w u8 := Kp.nx (by repeat (first | with_reducible exact K | with_reducible apply Kp.al | with_reducible apply Kp.dr | with_reducible apply Kp.dr1)) hb
        have Sq : Rd u8 pq qq (jq) := ho.rd
        clear ho hb
        go_wp2_with fail
        refine (NR.cmp (xs := jp) (ys := jq) (by repeat (first | with_reducible exact Sp | with_reducible apply Rd.al | with_reducible apply Rd.dr | with_reducible apply Rd.dr1)) (by repeat (first | with_reducible exact Sq | with_reducible apply Rd.al | with_reducible apply Rd.dr | with_reducible apply Rd.dr1)) rfl rfl (Nat.le_trans (NR.len_of Hp.out (fx.mul fz)) (by decide)) (Nat.le_trans (NR.len_of Hq.out (fy.mul fz)) (by decide)) (0) (cmp_eq (by rw [Np.out, Nq.out, Hc.out]; rfl))).mono ?_; rintro e w' ⟨rfl, rfl⟩
        go_wp2_with fail
        refine (NR.zero (xs := zs) (by repeat (first | with_reducible exact Sz | with_reducible apply Rd.al | with_reducible apply Rd.dr | with_reducible apply Rd.dr1)) rfl (by omega) true (by rw [Hc.out]; rfl)).mono ?_; rintro e w' ⟨rfl, rfl⟩
        go_wp2_with fail
        go_ret
        exact ⟨rfl, Kp.below (by repeat (first | with_reducible exact K | with_reducible apply Kp.al | with_reducible apply Kp.dr | with_reducible apply Kp.dr1))⟩
      · have hi1 : 0 < i1 := by omega
        clear hi ri1
        go_enter Try.func6, Try.ntmps6
        go_wp2_with fail
        refine (LN.long3 (by simp) false HZ).mono ?_; rintro e w' ⟨rfl, rfl⟩
        go_wp2_with fail
        refine (LN.awake _).mono ?_; rintro e u1 ⟨rfl, hb⟩
        replace Sx : Rd u1 a0 cap0 (xs) := Rd.nx (by repeat (first | with_reducible exact Sx | with_reducible apply Rd.al | with_reducible apply Rd.dr | with_reducible apply Rd.dr1)) hb
        replace Sy : Rd u1 a1 cap1 (ys) := Rd.nx (by repeat (first | with_reducible exact Sy | with_reducible apply Rd.al | with_reducible apply Rd.dr | with_reducible apply Rd.dr1)) hb
        replace Sz : Rd u1 a2 cap2 (zs) := Rd.nx (by repeat (first | with_reducible exact Sz | with_reducible apply Rd.al | with_reducible apply Rd.dr | with_reducible apply Rd.dr1)) hb
        replace K : Kp w u1 := Kp.nx (by repeat (first | with_reducible exact K | with_reducible apply Kp.al | with_reducible apply Kp.dr | with_reducible apply Kp.dr1)) hb
        clear hb
        go_wp2_with fail
        refine (NR.cmp (xs := xs) (ys := ys) (by repeat (first | with_reducible exact Sx | with_reducible apply Rd.al | with_reducible apply Rd.dr | with_reducible apply Rd.dr1)) (by repeat (first | with_reducible exact Sy | with_reducible apply Rd.al | with_reducible apply Rd.dr | with_reducible apply Rd.dr1)) rfl rfl (by omega) (by omega) (0) (cmp_eq H0.out)).mono ?_; rintro e w' ⟨rfl, rfl⟩
        go_wp2_with fail
        refine (NR.cmp (xs := ys) (ys := xs) (by repeat (first | with_reducible exact Sy | with_reducible apply Rd.al | with_reducible apply Rd.dr | with_reducible apply Rd.dr1)) (by repeat (first | with_reducible exact Sx | with_reducible apply Rd.al | with_reducible apply Rd.dr | with_reducible apply Rd.dr1)) rfl rfl (by omega) (by omega) (0) (cmp_eq (by have := H0.out; omega))).mono ?_; rintro e w' ⟨rfl, rfl⟩
        obtain ⟨ja, hja⟩ : ∃ z : List Nat, z = L ((V xs) + (V zs)) := ⟨_, rfl⟩
        have Na : Hid (V ja = (V xs) + (V zs)) := Lib.hid (by rw [hja, V_L])
        have Ha := Lib.hid hja; clear hja
        go_wp2_with fail
        refine (NR.add (xs := xs) (ys := zs) (zs := ja) (by repeat (first | with_reducible exact Sx | with_reducible apply Rd.al | with_reducible apply Rd.dr | with_reducible apply Rd.dr1)) (by repeat (first | with_reducible exact Sz | with_reducible apply Rd.al | with_reducible apply Rd.dr | with_reducible apply Rd.dr1)) rfl rfl (by omega) (by omega)  (Ha.out.trans (congrArg L (by first | with_reducible rfl | simp only [LN.V_nil, LN.V_one])))).mono ?_; rintro e u2 ⟨pa, qa, rfl, ho, hb⟩
        replace Sx : Rd u2 a0 cap0 (xs) := Rd.nx (by repeat (first | with_reducible exact Sx | with_reducible apply Rd.al | with_reducible apply Rd.dr | with_reducible apply Rd.dr1)) hb
        replace Sy : Rd u2 a1 cap1 (ys) := Rd.nx (by repeat (first | with_reducible exact Sy | with_reducible apply Rd.al | with_reducible apply Rd.dr | with_reducible apply Rd.dr1)) hb
        replace Sz : Rd u2 a2 cap2 (zs) := Rd.nx (by repeat (first | with_reducible exact Sz | with_reducible apply Rd.al | with_reducible apply Rd.dr | with_reducible apply Rd.dr1)) hb
        replace K : Kp w u2 := Kp.nx (by repeat (first | with_reducible exact K | with_reducible apply Kp.al | with_reducible apply Kp.dr | with_reducible apply Kp.dr1)) hb
        have Sa : Rd u2 pa qa (ja) := ho.rd
        clear ho hb
        obtain ⟨jb, hjb⟩ : ∃ z : List Nat, z = L ((V ys) + (V zs)) := ⟨_, rfl⟩
        have Nb : Hid (V jb = (V ys) + (V zs)) := Lib.hid (by rw [hjb, V_L])
        have Hb := Lib.hid hjb; clear hjb
        go_wp2_with fail
        refine (NR.add (xs := ys) (ys := zs) (zs := jb) (by repeat (first | with_reducible exact Sy | with_reducible apply Rd.al | with_reducible apply Rd.dr | with_reducible apply Rd.dr1)) (by repeat (first | with_reducible exact Sz | with_reducible apply Rd.al | with_reducible apply Rd.dr | with_reducible apply Rd.dr1)) rfl rfl (by omega) (by omega)  (Hb.out.trans (congrArg L (by first | with_reducible rfl | simp only [LN.V_nil, LN.V_one])))).mono ?_; rintro e u3 ⟨pb, qb, rfl, ho, hb⟩
        replace Sx : Rd u3 a0 cap0 (xs) := Rd.nx (by repeat (first | with_reducible exact Sx | with_reducible apply Rd.al | with_reducible apply Rd.dr | with_reducible apply Rd.dr1)) hb
        replace Sy : Rd u3 a1 cap1 (ys) := Rd.nx (by repeat (first | with_reducible exact Sy | with_reducible apply Rd.al | with_reducible apply Rd.dr | with_reducible apply Rd.dr1)) hb
        replace Sz : Rd u3 a2 cap2 (zs) := Rd.nx (by repeat (first | with_reducible exact Sz | with_reducible apply Rd.al | with_reducible apply Rd.dr | with_reducible apply Rd.dr1)) hb
        replace Sa : Rd u3 pa qa (ja) := Rd.nx (by repeat (first | with_reducible exact Sa | with_reducible apply Rd.al | with_reducible apply Rd.dr | with_reducible apply Rd.dr1)) hb
        replace K : Kp w u3 := Kp.nx (by repeat (first | with_reducible exact K | with_reducible apply Kp.al | with_reducible apply Kp.dr | with_reducible apply Kp.dr1)) hb
        have Sb : Rd u3 pb qb (jb) := ho.rd
        clear ho hb
        go_wp2_with fail
        refine (NR.cmp (xs := ja) (ys := jb) (by repeat (first | with_reducible exact Sa | with_reducible apply Rd.al | with_reducible apply Rd.dr | with_reducible apply Rd.dr1)) (by repeat (first | with_reducible exact Sb | with_reducible apply Rd.al | with_reducible apply Rd.dr | with_reducible apply Rd.dr1)) rfl rfl (Nat.le_trans (NR.len_of Ha.out (fx.add fz)) (by decide)) (Nat.le_trans (NR.len_of Hb.out (fy.add fz)) (by decide)) (0) (cmp_eq (by rw [Na.out, Nb.out]; have := H0.out; omega))).mono ?_; rintro e w' ⟨rfl, rfl⟩
        obtain ⟨jt, hjt⟩ : ∃ z : List Nat, z = L (V xs) := ⟨_, rfl⟩
        have Nt : Hid (V jt = V xs) := Lib.hid (by rw [hjt, V_L])
        have Ht := Lib.hid hjt; clear hjt
        go_wp2_with fail
        refine (NR.trim (xs := xs) (zs := jt) (by repeat (first | with_reducible exact Sx | with_reducible apply Rd.al | with_reducible apply Rd.dr | with_reducible apply Rd.dr1)) rfl (by omega)  (Ht.out.trans (congrArg L (by first | with_reducible rfl | simp only [LN.V_nil, LN.V_one])))).mono ?_; rintro e u4 ⟨pt, qt, rfl, ho, hb⟩
        replace Sx : Rd u4 a0 cap0 (xs) := Rd.nx (by repeat (first | with_reducible exact Sx | with_reducible apply Rd.al | with_reducible apply Rd.dr | with_reducible apply Rd.dr1)) hb
        replace Sy : Rd u4 a1 cap1 (ys) := Rd.nx (by repeat (first | with_reducible exact Sy | with_reducible apply Rd.al | with_reducible apply Rd.dr | with_reducible apply Rd.dr1)) hb
        replace Sz : Rd u4 a2 cap2 (zs) := Rd.nx (by repeat (first | with_reducible exact Sz | with_reducible apply Rd.al | with_reducible apply Rd.dr | with_reducible apply Rd.dr1)) hb
        replace Sa : Rd u4 pa qa (ja) := Rd.nx (by repeat (first | with_reducible exact Sa | with_reducible apply Rd.al | with_reducible apply Rd.dr | with_reducible apply Rd.dr1)) hb
        replace Sb : Rd u4 pb qb (jb) := Rd.nx (by repeat (first | with_reducible exact Sb | with_reducible apply Rd.al | with_reducible apply Rd.dr | with_reducible apply Rd.dr1)) hb
        replace K : Kp w u4 := Kp.nx (by repeat (first | with_reducible exact K | with_reducible apply Kp.al | with_reducible apply Kp.dr | with_reducible apply Kp.dr1)) hb
        have St : Rd u4 pt qt (jt) := ho.rd
        clear ho hb
        obtain ⟨jt2, hjt2⟩ : ∃ z : List Nat, z = L (V ys) := ⟨_, rfl⟩
        have Nt2 : Hid (V jt2 = V ys) := Lib.hid (by rw [hjt2, V_L])
        have Ht2 := Lib.hid hjt2; clear hjt2
        go_wp2_with fail
        refine (NR.trim (xs := ys) (zs := jt2) (by repeat (first | with_reducible exact Sy | with_reducible apply Rd.al | with_reducible apply Rd.dr | with_reducible apply Rd.dr1)) rfl (by omega)  (Ht2.out.trans (congrArg L (by first | with_reducible rfl | simp only [LN.V_nil, LN.V_one])))).mono ?_; rintro e u5 ⟨pt2, qt2, rfl, ho, hb⟩
        replace Sx : Rd u5 a0 cap0 (xs) := Rd.nx (by repeat (first | with_reducible exact Sx | with_reducible apply Rd.al | with_reducible apply Rd.dr | with_reducible apply Rd.dr1)) hb
        replace Sy : Rd u5 a1 cap1 (ys) := Rd.nx (by repeat (first | with_reducible exact Sy | with_reducible apply Rd.al | with_reducible apply Rd.dr | with_reducible apply Rd.dr1)) hb
        replace Sz : Rd u5 a2 cap2 (zs) := Rd.nx (by repeat (first | with_reducible exact Sz | with_reducible apply Rd.al | with_reducible apply Rd.dr | with_reducible apply Rd.dr1)) hb
        replace Sa : Rd u5 pa qa (ja) := Rd.nx (by repeat (first | with_reducible exact Sa | with_reducible apply Rd.al | with_reducible apply Rd.dr | with_reducible apply Rd.dr1)) hb
        replace Sb : Rd u5 pb qb (jb) := Rd.nx (by repeat (first | with_reducible exact Sb | with_reducible apply Rd.al | with_reducible apply Rd.dr | with_reducible apply Rd.dr1)) hb
        replace St : Rd u5 pt qt (jt) := Rd.nx (by repeat (first | with_reducible exact St | with_reducible apply Rd.al | with_reducible apply Rd.dr | with_reducible apply Rd.dr1)) hb
        replace K : Kp w u5 := Kp.nx (by repeat (first | with_reducible exact K | with_reducible apply Kp.al | with_reducible apply Kp.dr | with_reducible apply Kp.dr1)) hb
        have St2 : Rd u5 pt2 qt2 (jt2) := ho.rd
        clear ho hb
        go_wp2_with fail
        refine (NR.same_yes (xs := jt) (ys := jt2) (by repeat (first | with_reducible exact St | with_reducible apply Rd.al | with_reducible apply Rd.dr | with_reducible apply Rd.dr1)) (by repeat (first | with_reducible exact St2 | with_reducible apply Rd.al | with_reducible apply Rd.dr | with_reducible apply Rd.dr1)) rfl rfl (Nat.le_trans (NR.len_of Ht.out fx) (by decide)) (Ht.out.trans ((congrArg L (by have := H0.out; omega)).trans Ht2.out.symm))).mono ?_; rintro e u6 ⟨rfl, hb⟩
        replace Sx : Rd u6 a0 cap0 (xs) := Rd.nx (by repeat (first | with_reducible exact Sx | with_reducible apply Rd.al | with_reducible apply Rd.dr | with_reducible apply Rd.dr1)) hb
        replace Sy : Rd u6 a1 cap1 (ys) := Rd.nx (by repeat (first | with_reducible exact Sy | with_reducible apply Rd.al | with_reducible apply Rd.dr | with_reducible apply Rd.dr1)) hb
        replace Sz : Rd u6 a2 cap2 (zs) := Rd.nx (by repeat (first | with_reducible exact Sz | with_reducible apply Rd.al | with_reducible apply Rd.dr | with_reducible apply Rd.dr1)) hb
        replace Sa : Rd u6 pa qa (ja) := Rd.nx (by repeat (first | with_reducible exact Sa | with_reducible apply Rd.al | with_reducible apply Rd.dr | with_reducible apply Rd.dr1)) hb
        replace Sb : Rd u6 pb qb (jb) := Rd.nx (by repeat (first | with_reducible exact Sb | with_reducible apply Rd.al | with_reducible apply Rd.dr | with_reducible apply Rd.dr1)) hb
        replace St : Rd u6 pt qt (jt) := Rd.nx (by repeat (first | with_reducible exact St | with_reducible apply Rd.al | with_reducible apply Rd.dr | with_reducible apply Rd.dr1)) hb
        replace St2 : Rd u6 pt2 qt2 (jt2) := Rd.nx (by repeat (first | with_reducible exact St2 | with_reducible apply Rd.al | with_reducible apply Rd.dr | with_reducible apply Rd.dr1)) hb
        replace K : Kp w u6 := Kp.nx (by repeat (first | with_reducible exact K | with_reducible apply Kp.al | with_reducible apply Kp.dr | with_reducible apply Kp.dr1)) hb
        clear hb
        clear Sa
        clear Sb
        clear St
        clear St2
        go_wp2_with fail
        refine (NR.cmp (xs := ys) (ys := zs) (by repeat (first | with_reducible exact Sy | with_reducible apply Rd.al | with_reducible apply Rd.dr | with_reducible apply Rd.dr1)) (by repeat (first | with_reducible exact Sz | with_reducible apply Rd.al | with_reducible apply Rd.dr | with_reducible apply Rd.dr1)) rfl rfl (by omega) (by omega) (i1) Hi1.out).mono ?_; rintro e w' ⟨rfl, rfl⟩
        obtain ⟨jp, hjp⟩ : ∃ z : List Nat, z = L ((V xs) * (V zs)) := ⟨_, rfl⟩
        have Np : Hid (V jp = (V xs) * (V zs)) := Lib.hid (by rw [hjp, V_L])
        have Hp := Lib.hid hjp; clear hjp
        go_wp2_with fail
        refine (NR.mul (xs := xs) (ys := zs) (zs := jp) (by repeat (first | with_reducible exact Sx | with_reducible apply Rd.al | with_reducible apply Rd.dr | with_reducible apply Rd.dr1)) (by repeat (first | with_reducible exact Sz | with_reducible apply Rd.al | with_reducible apply Rd.dr | with_reducible apply Rd.dr1)) rfl rfl (by omega) (by omega)  (Hp.out.trans (congrArg L (by first | with_reducible rfl | simp only [LN.V_nil, LN.V_one])))).mono ?_; rintro e u7 ⟨pp, qp, rfl, ho, hb⟩
        replace Sx : Rd u7 a0 cap0 (xs) := Rd.nx (by repeat (first | with_reducible exact Sx | with_reducible apply Rd.al | with_reducible apply Rd.dr | with_reducible apply Rd.dr1)) hb
        replace Sy : Rd u7 a1 cap1 (ys) := Rd.nx (by repeat (first | with_reducible exact Sy | with_reducible apply Rd.al | with_reducible apply Rd.dr | with_reducible apply Rd.dr1)) hb
        replace Sz : Rd u7 a2 cap2 (zs) := Rd.nx (by repeat (first | with_reducible exact Sz | with_reducible apply Rd.al | with_reducible apply Rd.dr | with_reducible apply Rd.dr1)) hb
        replace K : Kp w u7 := Kp.nx (by repeat (first | with_reducible exact K | with_reducible apply Kp.al | with_reducible apply Kp.dr | with_reducible apply Kp.dr1)) hb
        have Sp : Rd u7 pp qp (jp) := ho.rd
        clear ho hb
        obtain ⟨jq, hjq⟩ : ∃ z : List Nat, z = L ((V ys) * (V zs)) := ⟨_, rfl⟩
        have Nq : Hid (V jq = (V ys) * (V zs)) := Lib.hid (by rw [hjq, V_L])
        have Hq := Lib.hid hjq; clear hjq
        go_wp2_with fail
        refine (NR.mul (xs := ys) (ys := zs) (zs := jq) (by repeat (first | with_reducible exact Sy | with_reducible apply Rd.al | with_reducible apply Rd.dr | with_reducible apply Rd.dr1)) (by repeat (first | with_reducible exact Sz | with_reducible apply Rd.al | with_reducible apply Rd.dr | with_reducible apply Rd.dr1)) rfl rfl (by omega) (by omega)  (Hq.out.trans (congrArg L (by first | with_reducible rfl | simp only [LN.V_nil, LN.V_one])))).mono ?_; rintro e u8 ⟨pq, qq, rfl, ho, hb⟩
        replace Sx : Rd u8 a0 cap0 (xs) := Rd.nx (by repeat (first | with_reducible exact Sx | with_reducible apply Rd.al | with_reducible apply Rd.dr | with_reducible apply Rd.dr1)) hb
        replace Sy : Rd u8 a1 cap1 (ys) := Rd.nx (by repeat (first | with_reducible exact Sy | with_reducible apply Rd.al | with_reducible apply Rd.dr | with_reducible apply Rd.dr1)) hb
        replace Sz : Rd u8 a2 cap2 (zs) := Rd.nx (by repeat (first | with_reducible exact Sz | with_reducible apply Rd.al | with_reducible apply Rd.dr | with_reducible apply Rd.dr1)) hb
        replace Sp : Rd u8 pp qp (jp) := Rd.nx (by repeat (first | with_reducible exact Sp | with_reducible apply Rd.al | with_reducible apply Rd.dr | with_reducible apply Rd.dr1)) hb
        replace K : Kp w u8 := Kp.nx (by repeat (first | with_reducible exact K | with_reducible apply Kp.al | with_reducible apply Kp.dr | with_reducible apply Kp.dr1)) hb
        have Sq : Rd u8 pq qq (jq) := ho.rd
        clear ho hb
        go_wp2_with fail
        refine (NR.cmp (xs := jp) (ys := jq) (by repeat (first | with_reducible exact Sp | with_reducible apply Rd.al | with_reducible apply Rd.dr | with_reducible apply Rd.dr1)) (by repeat (first | with_reducible exact Sq | with_reducible apply Rd.al | with_reducible apply Rd.dr | with_reducible apply Rd.dr1)) rfl rfl (Nat.le_trans (NR.len_of Hp.out (fx.mul fz)) (by decide)) (Nat.le_trans (NR.len_of Hq.out (fy.mul fz)) (by decide)) (0) (cmp_eq (by rw [Np.out, Nq.out, Hc.out]; rfl))).mono ?_; rintro e w' ⟨rfl, rfl⟩
        go_wp2_with fail
        refine (NR.zero (xs := zs) (by repeat (first | with_reducible exact Sz | with_reducible apply Rd.al | with_reducible apply Rd.dr | with_reducible apply Rd.dr1)) rfl (by omega) true (by rw [Hc.out]; rfl)).mono ?_; rintro e w' ⟨rfl, rfl⟩
        go_wp2_with fail
        go_ret
        exact ⟨rfl, Kp.below (by repeat (first | with_reducible exact K | with_reducible apply Kp.al | with_reducible apply Kp.dr | with_reducible apply Kp.dr1))⟩
    · have Hc := Lib.hid hc; clear hc
      by_cases hi : i1 ≤ 0
      · have hle := ri1 hi
        obtain ⟨i2, hi2, ri2⟩ : ∃ z : Int, z = NT.cmpI (V xs) (V zs) ∧ z ≤ 0 := ⟨_, rfl, by have := H0.out; unfold NT.cmpI; split <;> (try split) <;> omega⟩
        have Hi2 := Lib.hid hi2; clear hi2
        clear hle ri1
        go_enter Try.func6, Try.ntmps6
        go_wp2_with fail
        refine (LN.long3 (by simp) false HZ).mono ?_; rintro e w' ⟨rfl, rfl⟩
        go_wp2_with fail
        refine (LN.awake _).mono ?_; rintro e u1 ⟨rfl, hb⟩
        replace Sx : Rd u1 a0 cap0 (xs) := Rd.nx (by repeat (first | with_reducible exact Sx | with_reducible apply Rd.al | with_reducible apply Rd.dr | with_reducible apply Rd.dr1)) hb
        replace Sy : Rd u1 a1 cap1 (ys) := Rd.nx (by repeat (first | with_reducible exact Sy | with_reducible apply Rd.al | with_reducible apply Rd.dr | with_reducible apply Rd.dr1)) hb
        replace Sz : Rd u1 a2 cap2 (zs) := Rd.nx (by repeat (first | with_reducible exact Sz | with_reducible apply Rd.al | with_reducible apply Rd.dr | with_reducible apply Rd.dr1)) hb
        replace K : Kp w u1 := Kp.nx (by repeat (first | with_reducible exact K | with_reducible apply Kp.al | with_reducible apply Kp.dr | with_reducible apply Kp.dr1)) hb
        clear hb
        go_wp2_with fail
        refine (NR.cmp (xs := xs) (ys := ys) (by repeat (first | with_reducible exact Sx | with_reducible apply Rd.al | with_reducible apply Rd.dr | with_reducible apply Rd.dr1)) (by repeat (first | with_reducible exact Sy | with_reducible apply Rd.al | with_reducible apply Rd.dr | with_reducible apply Rd.dr1)) rfl rfl (by omega) (by omega) (0) (cmp_eq H0.out)).mono ?_; rintro e w' ⟨rfl, rfl⟩
        go_wp2_with fail
        refine (NR.cmp (xs := ys) (ys := xs) (by repeat (first | with_reducible exact Sy | with_reducible apply Rd.al | with_reducible apply Rd.dr | with_reducible apply Rd.dr1)) (by repeat (first | with_reducible exact Sx | with_reducible apply Rd.al | with_reducible apply Rd.dr | with_reducible apply Rd.dr1)) rfl rfl (by omega) (by omega) (0) (cmp_eq (by have := H0.out; omega))).mono ?_; rintro e w' ⟨rfl, rfl⟩
        obtain ⟨ja, hja⟩ : ∃ z : List Nat, z = L ((V xs) + (V zs)) := ⟨_, rfl⟩
        have Na : Hid (V ja = (V xs) + (V zs)) := Lib.hid (by rw [hja, V_L])
        have Ha := Lib.hid hja; clear hja
        go_wp2_with fail
        refine (NR.add (xs := xs) (ys := zs) (zs := ja) (by repeat (first | with_reducible exact Sx | with_reducible apply Rd.al | with_reducible apply Rd.dr | with_reducible apply Rd.dr1)) (by repeat (first | with_reducible exact Sz | with_reducible apply Rd.al | with_reducible apply Rd.dr | with_reducible apply Rd.dr1)) rfl rfl (by omega) (by omega)  (Ha.out.trans (congrArg L (by first | with_reducible rfl | simp only [LN.V_nil, LN.V_one])))).mono ?_; rintro e u2 ⟨pa, qa, rfl, ho, hb⟩
        replace Sx : Rd u2 a0 cap0 (xs) := Rd.nx (by repeat (first | with_reducible exact Sx | with_reducible apply Rd.al | with_reducible apply Rd.dr | with_reducible apply Rd.dr1)) hb
        replace Sy : Rd u2 a1 cap1 (ys) := Rd.nx (by repeat (first | with_reducible exact Sy | with_reducible apply Rd.al | with_reducible apply Rd.dr | with_reducible apply Rd.dr1)) hb
        replace Sz : Rd u2 a2 cap2 (zs) := Rd.nx (by repeat (first | with_reducible exact Sz | with_reducible apply Rd.al | with_reducible apply Rd.dr | with_reducible apply Rd.dr1)) hb
        replace K : Kp w u2 := Kp.nx (by repeat (first | with_reducible exact K | with_reducible apply Kp.al | with_reducible apply Kp.dr | with_reducible apply Kp.dr1)) hb
        have Sa : Rd u2 pa qa (ja) := ho.rd
        clear ho hb
        obtain ⟨jb, hjb⟩ : ∃ z : List Nat, z = L ((V ys) + (V zs)) := ⟨_, rfl⟩
        have Nb : Hid (V jb = (V ys) + (V zs)) := Lib.hid (by rw [hjb, V_L])
        have Hb := Lib.hid hjb; clear hjb
        go_wp2_with fail
        refine (NR.add (xs := ys) (ys := zs) (zs := jb) (by repeat (first | with_reducible exact Sy | with_reducible apply Rd.al | with_reducible apply Rd.dr | with_reducible apply Rd.dr1)) (by repeat (first | with_reducible exact Sz | with_reducible apply Rd.al | with_reducible apply Rd.dr | with_reducible apply Rd.dr1)) rfl rfl (by omega) (by omega)  (Hb.out.trans (congrArg L (by first | with_reducible rfl | simp only [LN.V_nil, LN.V_one])))).mono ?_; rintro e u3 ⟨pb, qb, rfl, ho, hb⟩
        replace Sx : Rd u3 a0 cap0 (xs) := Rd.nx (by repeat (first | with_reducible exact Sx | with_reducible apply Rd.al | with_reducible apply Rd.dr | with_reducible apply Rd.dr1)) hb
        replace Sy : Rd u3 a1 cap1 (ys) := Rd.nx (by repeat (first | with_reducible exact Sy | with_reducible apply Rd.al | with_reducible apply Rd.dr | with_reducible apply Rd.dr1)) hb
        replace Sz : Rd u3 a2 cap2 (zs) := Rd.nx (by repeat (first | with_reducible exact Sz | with_reducible apply Rd.al | with_reducible apply Rd.dr | with_reducible apply Rd.dr1)) hb
        replace Sa : Rd u3 pa qa (ja) := Rd.nx (by repeat (first | with_reducible exact Sa | with_reducible apply Rd.al | with_reducible apply Rd.dr | with_reducible apply Rd.dr1)) hb
        replace K : Kp w u3 := Kp.nx (by repeat (first | with_reducible exact K | with_reducible apply Kp.al | with_reducible apply Kp.dr | with_reducible apply Kp.dr1)) hb
        have Sb : Rd u3 pb qb (jb) := ho.rd
        clear ho hb
        go_wp2_with fail
        refine (NR.cmp (xs := ja) (ys := jb) (by repeat (first | with_reducible exact Sa | with_reducible apply Rd.al | with_reducible apply Rd.dr | with_reducible apply Rd.dr1)) (by repeat (first | with_reducible exact Sb | with_reducible apply Rd.al | with_reducible apply Rd.dr | with_reducible apply Rd.dr1)) rfl rfl (Nat.le_trans (NR.len_of Ha.out (fx.add fz)) (by decide)) (Nat.le_trans (NR.len_of Hb.out (fy.add fz)) (by decide)) (0) (cmp_eq (by rw [Na.out, Nb.out]; have := H0.out; omega))).mono ?_; rintro e w' ⟨rfl, rfl⟩
        obtain ⟨jt, hjt⟩ : ∃ z : List Nat, z = L (V xs) := ⟨_, rfl⟩
        have Nt : Hid (V jt = V xs) := Lib.hid (by rw [hjt, V_L])
        have Ht := Lib.hid hjt; clear hjt
        go_wp2_with fail
        refine (NR.trim (xs := xs) (zs := jt) (by repeat (first | with_reducible exact Sx | with_reducible apply Rd.al | with_reducible apply Rd.dr | with_reducible apply Rd.dr1)) rfl (by omega)  (Ht.out.trans (congrArg L (by first | with_reducible rfl | simp only [LN.V_nil, LN.V_one])))).mono ?_; rintro e u4 ⟨pt, qt, rfl, ho, hb⟩
        replace Sx : Rd u4 a0 cap0 (xs) := Rd.nx (by repeat (first | with_reducible exact Sx | with_reducible apply Rd.al | with_reducible apply Rd.dr | with_reducible apply Rd.dr1)) hb
        replace Sy : Rd u4 a1 cap1 (ys) := Rd.nx (by repeat (first | with_reducible exact Sy | with_reducible apply Rd.al | with_reducible apply Rd.dr | with_reducible apply Rd.dr1)) hb
        replace Sz : Rd u4 a2 cap2 (zs) := Rd.nx (by repeat (first | with_reducible exact Sz | with_reducible apply Rd.al | with_reducible apply Rd.dr | with_reducible apply Rd.dr1)) hb
        replace Sa : Rd u4 pa qa (ja) := Rd.nx (by repeat (first | with_reducible exact Sa | with_reducible apply Rd.al | with_reducible apply Rd.dr | with_reducible apply Rd.dr1)) hb
        replace Sb : Rd u4 pb qb (jb) := Rd.nx (by repeat (first | with_reducible exact Sb | with_reducible apply Rd.al | with_reducible apply Rd.dr | with_reducible apply Rd.dr1)) hb
        replace K : Kp w u4 := Kp.nx (by repeat (first | with_reducible exact K | with_reducible apply Kp.al | with_reducible apply Kp.dr | with_reducible apply Kp.dr1)) hb
        have St : Rd u4 pt qt (jt) := ho.rd
        clear ho hb
        obtain ⟨jt2, hjt2⟩ : ∃ z : List Nat, z = L (V ys) := ⟨_, rfl⟩
        have Nt2 : Hid (V jt2 = V ys) := Lib.hid (by rw [hjt2, V_L])
        have Ht2 := Lib.hid hjt2; clear hjt2
        go_wp2_with fail
        refine (NR.trim (xs := ys) (zs := jt2) (by repeat (first | with_reducible exact Sy | with_reducible apply Rd.al | with_reducible apply Rd.dr | with_reducible apply Rd.dr1)) rfl (by omega)  (Ht2.out.trans (congrArg L (by first | with_reducible rfl | simp only [LN.V_nil, LN.V_one])))).mono ?_; rintro e u5 ⟨pt2, qt2, rfl, ho, hb⟩
        replace Sx : Rd u5 a0 cap0 (xs) := Rd.nx (by repeat (first | with_reducible exact Sx | with_reducible apply Rd.al | with_reducible apply Rd.dr | with_reducible apply Rd.dr1)) hb
        replace Sy : Rd u5 a1 cap1 (ys) := Rd.nx (by repeat (first | with_reducible exact Sy | with_reducible apply Rd.al | with_reducible apply Rd.dr | with_reducible apply Rd.dr1)) hb
        replace Sz : Rd u5 a2 cap2 (zs) := Rd.nx (by repeat (first | with_reducible exact Sz | with_reducible apply Rd.al | with_reducible apply Rd.dr | with_reducible apply Rd.dr1)) hb
        replace Sa : Rd u5 pa qa (ja) := Rd.nx (by repeat (first | with_reducible exact Sa | with_reducible apply Rd.al | with_reducible apply Rd.dr | with_reducible apply Rd.dr1)) hb
        replace Sb : Rd u5 pb qb (jb) := Rd.nx (by repeat (first | with_reducible exact Sb | with_reducible apply Rd.al | with_reducible apply Rd.dr | with_reducible apply Rd.dr1)) hb
        replace St : Rd u5 pt qt (jt) := Rd.nx (by repeat (first | with_reducible exact St | with_reducible apply Rd.al | with_reducible apply Rd.dr | with_reducible apply Rd.dr1)) hb
        replace K : Kp w u5 := Kp.nx (by repeat (first | with_reducible exact K | with_reducible apply Kp.al | with_reducible apply Kp.dr | with_reducible apply Kp.dr1)) hb
        have St2 : Rd u5 pt2 qt2 (jt2) := ho.rd
        clear ho hb
        go_wp2_with fail
        refine (NR.same_yes (xs := jt) (ys := jt2) (by repeat (first | with_reducible exact St | with_reducible apply Rd.al | with_reducible apply Rd.dr | with_reducible apply Rd.dr1)) (by repeat (first | with_reducible exact St2 | with_reducible apply Rd.al | with_reducible apply Rd.dr | with_reducible apply Rd.dr1)) rfl rfl (Nat.le_trans (NR.len_of Ht.out fx) (by decide)) (Ht.out.trans ((congrArg L (by have := H0.out; omega)).trans Ht2.out.symm))).mono ?_; rintro e u6 ⟨rfl, hb⟩
        replace Sx : Rd u6 a0 cap0 (xs) := Rd.nx (by repeat (first | with_reducible exact Sx | with_reducible apply Rd.al | with_reducible apply Rd.dr | with_reducible apply Rd.dr1)) hb
        replace Sy : Rd u6 a1 cap1 (ys) := Rd.nx (by repeat (first | with_reducible exact Sy | with_reducible apply Rd.al | with_reducible apply Rd.dr | with_reducible apply Rd.dr1)) hb
        replace Sz : Rd u6 a2 cap2 (zs) := Rd.nx (by repeat (first | with_reducible exact Sz | with_reducible apply Rd.al | with_reducible apply Rd.dr | with_reducible apply Rd.dr1)) hb
        replace Sa : Rd u6 pa qa (ja) := Rd.nx (by repeat (first | with_reducible exact Sa | with_reducible apply Rd.al | with_reducible apply Rd.dr | with_reducible apply Rd.dr1)) hb
        replace Sb : Rd u6 pb qb (jb) := Rd.nx (by repeat (first | with_reducible exact Sb | with_reducible apply Rd.al | with_reducible apply Rd.dr | with_reducible apply Rd.dr1)) hb
        replace St : Rd u6 pt qt (jt) := Rd.nx (by repeat (first | with_reducible exact St | with_reducible apply Rd.al | with_reducible apply Rd.dr | with_reducible apply Rd.dr1)) hb
        replace St2 : Rd u6 pt2 qt2 (jt2) := Rd.nx (by repeat (first | with_reducible exact St2 | with_reducible apply Rd.al | with_reducible apply Rd.dr | with_reducible apply Rd.dr1)) hb
        replace K : Kp w u6 := Kp.nx (by repeat (first | with_reducible exact K | with_reducible apply Kp.al | with_reducible apply Kp.dr | with_reducible apply Kp.dr1)) hb
        clear hb
        clear Sa
        clear Sb
        clear St
        clear St2
        go_wp2_with fail
        refine (NR.cmp (xs := ys) (ys := zs) (by repeat (first | with_reducible exact Sy | with_reducible apply Rd.al | with_reducible apply Rd.dr | with_reducible apply Rd.dr1)) (by repeat (first | with_reducible exact Sz | with_reducible apply Rd.al | with_reducible apply Rd.dr | with_reducible apply Rd.dr1)) rfl rfl (by omega) (by omega) (i1) Hi1.out).mono ?_; rintro e w' ⟨rfl, rfl⟩
        go_wp2_with fail
        refine (NR.cmp (xs := xs) (ys := zs) (by repeat (first | with_reducible exact Sx | with_reducible apply Rd.al | with_reducible apply Rd.dr | with_reducible apply Rd.dr1)) (by repeat (first | with_reducible exact Sz | with_reducible apply Rd.al | with_reducible apply Rd.dr | with_reducible apply Rd.dr1)) rfl rfl (by omega) (by omega) (i2) Hi2.out).mono ?_; rintro e w' ⟨rfl, rfl⟩
        obtain ⟨jp, hjp⟩ : ∃ z : List Nat, z = L ((V xs) * (V zs)) := ⟨_, rfl⟩
        have Np : Hid (V jp = (V xs) * (V zs)) := Lib.hid (by rw [hjp, V_L])
        have Hp := Lib.hid hjp; clear hjp
        go_wp2_with fail
        refine (NR.mul (xs := xs) (ys := zs) (zs := jp) (by repeat (first | with_reducible exact Sx | with_reducible apply Rd.al | with_reducible apply Rd.dr | with_reducible apply Rd.dr1)) (by repeat (first | with_reducible exact Sz | with_reducible apply Rd.al | with_reducible apply Rd.dr | with_reducible apply Rd.dr1)) rfl rfl (by omega) (by omega)  (Hp.out.trans (congrArg L (by first | with_reducible rfl | simp only [LN.V_nil, LN.V_one])))).mono ?_; rintro e u7 ⟨pp, qp, rfl, ho, hb⟩
        replace Sx : Rd u7 a0 cap0 (xs) := Rd.nx (by repeat (first | with_reducible exact Sx | with_reducible apply Rd.al | with_reducible apply Rd.dr | with_reducible apply Rd.dr1)) hb
        replace Sy : Rd u7 a1 cap1 (ys) := Rd.nx (by repeat (first | with_reducible exact Sy | with_reducible apply Rd.al | with_reducible apply Rd.dr | with_reducible apply Rd.dr1)) hb
        replace Sz : Rd u7 a2 cap2 (zs) := Rd.nx (by repeat (first | with_reducible exact Sz | with_reducible apply Rd.al | with_reducible apply Rd.dr | with_reducible apply Rd.dr1)) hb
        replace K : Kp w u7 := Kp.nx (by repeat (first | with_reducible exact K | with_reducible apply Kp.al | with_reducible apply Kp.dr | with_reducible apply Kp.dr1)) hb
        have Sp : Rd u7 pp qp (jp) := ho.rd
        clear ho hb
        obtain ⟨jq, hjq⟩ : ∃ z : List Nat, z = L ((V ys) * (V zs)) := ⟨_, rfl⟩
        have Nq : Hid (V jq = (V ys) * (V zs)) := Lib.hid (by rw [hjq, V_L])
        have Hq := Lib.hid hjq; clear hjq
        go_wp2_with fail
        refine (NR.mul (xs := ys) (ys := zs) (zs := jq) (by repeat (first | with_reducible exact Sy | with_reducible apply Rd.al | with_reducible apply Rd.dr | with_reducible apply Rd.dr1)) (by repeat (first | with_reducible exact Sz | with_reducible apply Rd.al | with_reducible apply Rd.dr | with_reducible apply Rd.dr1)) rfl rfl (by omega) (by omega)  (Hq.out.trans (congrArg L (by first | with_reducible rfl | simp only [LN.V_nil, LN.V_one])))).mono ?_; rintro e u8 ⟨pq, qq, rfl, ho, hb⟩
        replace Sx : Rd u8 a0 cap0 (xs) := Rd.nx (by repeat (first | with_reducible exact Sx | with_reducible apply Rd.al | with_reducible apply Rd.dr | with_reducible apply Rd.dr1)) hb
        replace Sy : Rd u8 a1 cap1 (ys) := Rd.nx (by repeat (first | with_reducible exact Sy | with_reducible apply Rd.al | with_reducible apply Rd.dr | with_reducible apply Rd.dr1)) hb
        replace Sz : Rd u8 a2 cap2 (zs) := Rd.nx (by repeat (first | with_reducible exact Sz | with_reducible apply Rd.al | with_reducible apply Rd.dr | with_reducible apply Rd.dr1)) hb
        replace Sp : Rd u8 pp qp (jp) := Rd.nx (by repeat (first | with_reducible exact Sp | with_reducible apply Rd.al | with_reducible apply Rd.dr | with_reducible apply Rd.dr1)) hb
        replace K : Kp w u8 := Kp.nx (by repeat (first | with_reducible exact K | with_reducible apply Kp.al | with_reducible apply Kp.dr | with_reducible apply Kp.dr1)) hb
        have Sq : Rd u8 pq qq (jq) := ho.rd
        clear ho hb
        go_wp2_with fail
        refine (NR.cmp (xs := jp) (ys := jq) (by repeat (first | with_reducible exact Sp | with_reducible apply Rd.al | with_reducible apply Rd.dr | with_reducible apply Rd.dr1)) (by repeat (first | with_reducible exact Sq | with_reducible apply Rd.al | with_reducible apply Rd.dr | with_reducible apply Rd.dr1)) rfl rfl (Nat.le_trans (NR.len_of Hp.out (fx.mul fz)) (by decide)) (Nat.le_trans (NR.len_of Hq.out (fy.mul fz)) (by decide)) (0) (cmp_eq (by rw [Np.out, Nq.out, H0.out]))).mono ?_; rintro e w' ⟨rfl, rfl⟩
        go_wp2_with fail
        refine (NR.zero (xs := zs) (by repeat (first | with_reducible exact Sz | with_reducible apply Rd.al | with_reducible apply Rd.dr | with_reducible apply Rd.dr1)) rfl (by omega) false (by have := Hc.out; symm; rw [beq_eq_false_iff_ne]; exact this)).mono ?_; rintro e w' ⟨rfl, rfl⟩
        go_wp2_with fail
        refine (NR.zero (xs := zs) (by repeat (first | with_reducible exact Sz | with_reducible apply Rd.al | with_reducible apply Rd.dr | with_reducible apply Rd.dr1)) rfl (by omega) false (by have := Hc.out; symm; rw [beq_eq_false_iff_ne]; exact this)).mono ?_; rintro e w' ⟨rfl, rfl⟩
        go_wp2_with fail
        go_ret
        exact ⟨rfl, Kp.below (by repeat (first | with_reducible exact K | with_reducible apply Kp.al | with_reducible apply Kp.dr | with_reducible apply Kp.dr1))⟩
      · have hi1 : 0 < i1 := by omega
        clear hi ri1
        go_enter Try.func6, Try.ntmps6
        go_wp2_with fail
        refine (LN.long3 (by simp) false HZ).mono ?_; rintro e w' ⟨rfl, rfl⟩
        go_wp2_with fail
        refine (LN.awake _).mono ?_; rintro e u1 ⟨rfl, hb⟩
        replace Sx : Rd u1 a0 cap0 (xs) := Rd.nx (by repeat (first | with_reducible exact Sx | with_reducible apply Rd.al | with_reducible apply Rd.dr | with_reducible apply Rd.dr1)) hb
        replace Sy : Rd u1 a1 cap1 (ys) := Rd.nx (by repeat (first | with_reducible exact Sy | with_reducible apply Rd.al | with_reducible apply Rd.dr | with_reducible apply Rd.dr1)) hb
        replace Sz : Rd u1 a2 cap2 (zs) := Rd.nx (by repeat (first | with_reducible exact Sz | with_reducible apply Rd.al | with_reducible apply Rd.dr | with_reducible apply Rd.dr1)) hb
        replace K : Kp w u1 := Kp.nx (by repeat (first | with_reducible exact K | with_reducible apply Kp.al | with_reducible apply Kp.dr | with_reducible apply Kp.dr1)) hb
        clear hb
        go_wp2_with fail
        refine (NR.cmp (xs := xs) (ys := ys) (by repeat (first | with_reducible exact Sx | with_reducible apply Rd.al | with_reducible apply Rd.dr | with_reducible apply Rd.dr1)) (by repeat (first | with_reducible exact Sy | with_reducible apply Rd.al | with_reducible apply Rd.dr | with_reducible apply Rd.dr1)) rfl rfl (by omega) (by omega) (0) (cmp_eq H0.out)).mono ?_; rintro e w' ⟨rfl, rfl⟩
        go_wp2_with fail
        refine (NR.cmp (xs := ys) (ys := xs) (by repeat (first | with_reducible exact Sy | with_reducible apply Rd.al | with_reducible apply Rd.dr | with_reducible apply Rd.dr1)) (by repeat (first | with_reducible exact Sx | with_reducible apply Rd.al | with_reducible apply Rd.dr | with_reducible apply Rd.dr1)) rfl rfl (by omega) (by omega) (0) (cmp_eq (by have := H0.out; omega))).mono ?_; rintro e w' ⟨rfl, rfl⟩
        obtain ⟨ja, hja⟩ : ∃ z : List Nat, z = L ((V xs) + (V zs)) := ⟨_, rfl⟩
        have Na : Hid (V ja = (V xs) + (V zs)) := Lib.hid (by rw [hja, V_L])
        have Ha := Lib.hid hja; clear hja
        go_wp2_with fail
        refine (NR.add (xs := xs) (ys := zs) (zs := ja) (by repeat (first | with_reducible exact Sx | with_reducible apply Rd.al | with_reducible apply Rd.dr | with_reducible apply Rd.dr1)) (by repeat (first | with_reducible exact Sz | with_reducible apply Rd.al | with_reducible apply Rd.dr | with_reducible apply Rd.dr1)) rfl rfl (by omega) (by omega)  (Ha.out.trans (congrArg L (by first | with_reducible rfl | simp only [LN.V_nil, LN.V_one])))).mono ?_; rintro e u2 ⟨pa, qa, rfl, ho, hb⟩
        replace Sx : Rd u2 a0 cap0 (xs) := Rd.nx (by repeat (first | with_reducible exact Sx | with_reducible apply Rd.al | with_reducible apply Rd.dr | with_reducible apply Rd.dr1)) hb
        replace Sy : Rd u2 a1 cap1 (ys) := Rd.nx (by repeat (first | with_reducible exact Sy | with_reducible apply Rd.al | with_reducible apply Rd.dr | with_reducible apply Rd.dr1)) hb
        replace Sz : Rd u2 a2 cap2 (zs) := Rd.nx (by repeat (first | with_reducible exact Sz | with_reducible apply Rd.al | with_reducible apply Rd.dr | with_reducible apply Rd.dr1)) hb
        replace K : Kp w u2 := Kp.nx (by repeat (first | with_reducible exact K | with_reducible apply Kp.al | with_reducible apply Kp.dr | with_reducible apply Kp.dr1)) hb
        have Sa : Rd u2 pa qa (ja) := ho.rd
        clear ho hb
        obtain ⟨jb, hjb⟩ : ∃ z : List Nat, z = L ((V ys) + (V zs)) := ⟨_, rfl⟩
        have Nb : Hid (V jb = (V ys) + (V zs)) := Lib.hid (by rw [hjb, V_L])
        have Hb := Lib.hid hjb; clear hjb
        go_wp2_with fail
        refine (NR.add (xs := ys) (ys := zs) (zs := jb) (by repeat (first | with_reducible exact Sy | with_reducible apply Rd.al | with_reducible apply Rd.dr | with_reducible apply Rd.dr1)) (by repeat (first | with_reducible exact Sz | with_reducible apply Rd.al | with_reducible apply Rd.dr | with_reducible apply Rd.dr1)) rfl rfl (by omega) (by omega)  (Hb.out.trans (congrArg L (by first | with_reducible rfl | simp only [LN.V_nil, LN.V_one])))).mono ?_; rintro e u3 ⟨pb, qb, rfl, ho, hb⟩
        replace Sx : Rd u3 a0 cap0 (xs) := Rd.nx (by repeat (first | with_reducible exact Sx | with_reducible apply Rd.al | with_reducible apply Rd.dr | with_reducible apply Rd.dr1)) hb
        replace Sy : Rd u3 a1 cap1 (ys) := Rd.nx (by repeat (first | with_reducible exact Sy | with_reducible apply Rd.al | with_reducible apply Rd.dr | with_reducible apply Rd.dr1)) hb
        replace Sz : Rd u3 a2 cap2 (zs) := Rd.nx (by repeat (first | with_reducible exact Sz | with_reducible apply Rd.al | with_reducible apply Rd.dr | with_reducible apply Rd.dr1)) hb
        replace Sa : Rd u3 pa qa (ja) := Rd.nx (by repeat (first | with_reducible exact Sa | with_reducible apply Rd.al | with_reducible apply Rd.dr | with_reducible apply Rd.dr1)) hb
        replace K : Kp w u3 := Kp.nx (by repeat (first | with_reducible exact K | with_reducible apply Kp.al | with_reducible apply Kp.dr | with_reducible apply Kp.dr1)) hb
        have Sb : Rd u3 pb qb (jb) := ho.rd
        clear ho hb
        go_wp2_with fail
        refine (NR.cmp (xs := ja) (ys := jb) (by repeat (first | with_reducible exact Sa | with_reducible apply Rd.al | with_reducible apply Rd.dr | with_reducible apply Rd.dr1)) (by repeat (first | with_reducible exact Sb | with_reducible apply Rd.al | with_reducible apply Rd.dr | with_reducible apply Rd.dr1)) rfl rfl (Nat.le_trans (NR.len_of Ha.out (fx.add fz)) (by decide)) (Nat.le_trans (NR.len_of Hb.out (fy.add fz)) (by decide)) (0) (cmp_eq (by rw [Na.out, Nb.out]; have := H0.out; omega))).mono ?_; rintro e w' ⟨rfl, rfl⟩
        obtain ⟨jt, hjt⟩ : ∃ z : List Nat, z = L (V xs) := ⟨_, rfl⟩
        have Nt : Hid (V jt = V xs) := Lib.hid (by rw [hjt, V_L])
        have Ht := Lib.hid hjt; clear hjt
        go_wp2_with fail
        refine (NR.trim (xs := xs) (zs := jt) (by repeat (first | with_reducible exact Sx | with_reducible apply Rd.al | with_reducible apply Rd.dr | with_reducible apply Rd.dr1)) rfl (by omega)  (Ht.out.trans (congrArg L (by first | with_reducible rfl | simp only [LN.V_nil, LN.V_one])))).mono ?_; rintro e u4 ⟨pt, qt, rfl, ho, hb⟩
        replace Sx : Rd u4 a0 cap0 (xs) := Rd.nx (by repeat (first | with_reducible exact Sx | with_reducible apply Rd.al | with_reducible apply Rd.dr | with_reducible apply Rd.dr1)) hb
        replace Sy : Rd u4 a1 cap1 (ys) := Rd.nx (by repeat (first | with_reducible exact Sy | with_reducible apply Rd.al | with_reducible apply Rd.dr | with_reducible apply Rd.dr1)) hb
        replace Sz : Rd u4 a2 cap2 (zs) := Rd.nx (by repeat (first | with_reducible exact Sz | with_reducible apply Rd.al | with_reducible apply Rd.dr | with_reducible apply Rd.dr1)) hb
        replace Sa : Rd u4 pa qa (ja) := Rd.nx (by repeat (first | with_reducible exact Sa | with_reducible apply Rd.al | with_reducible apply Rd.dr | with_reducible apply Rd.dr1)) hb
        replace Sb : Rd u4 pb qb (jb) := Rd.nx (by repeat (first | with_reducible exact Sb | with_reducible apply Rd.al | with_reducible apply Rd.dr | with_reducible apply Rd.dr1)) hb
        replace K : Kp w u4 := Kp.nx (by repeat (first | with_reducible exact K | with_reducible apply Kp.al | with_reducible apply Kp.dr | with_reducible apply Kp.dr1)) hb
        have St : Rd u4 pt qt (jt) := ho.rd
        clear ho hb
        obtain ⟨jt2, hjt2⟩ : ∃ z : List Nat, z = L (V ys) := ⟨_, rfl⟩
        have Nt2 : Hid (V jt2 = V ys) := Lib.hid (by rw [hjt2, V_L])
        have Ht2 := Lib.hid hjt2; clear hjt2
        go_wp2_with fail
        refine (NR.trim (xs := ys) (zs := jt2) (by repeat (first | with_reducible exact Sy | with_reducible apply Rd.al | with_reducible apply Rd.dr | with_reducible apply Rd.dr1)) rfl (by omega)  (Ht2.out.trans (congrArg L (by first | with_reducible rfl | simp only [LN.V_nil, LN.V_one])))).mono ?_; rintro e u5 ⟨pt2, qt2, rfl, ho, hb⟩
        replace Sx : Rd u5 a0 cap0 (xs) := Rd.nx (by repeat (first | with_reducible exact Sx | with_reducible apply Rd.al | with_reducible apply Rd.dr | with_reducible apply Rd.dr1)) hb
        replace Sy : Rd u5 a1 cap1 (ys) := Rd.nx (by repeat (first | with_reducible exact Sy | with_reducible apply Rd.al | with_reducible apply Rd.dr | with_reducible apply Rd.dr1)) hb
        replace Sz : Rd u5 a2 cap2 (zs) := Rd.nx (by repeat (first | with_reducible exact Sz | with_reducible apply Rd.al | with_reducible apply Rd.dr | with_reducible apply Rd.dr1)) hb
        replace Sa : Rd u5 pa qa (ja) := Rd.nx (by repeat (first | with_reducible exact Sa | with_reducible apply Rd.al | with_reducible apply Rd.dr | with_reducible apply Rd.dr1)) hb
        replace Sb : Rd u5 pb qb (jb) := Rd.nx (by repeat (first | with_reducible exact Sb | with_reducible apply Rd.al | with_reducible apply Rd.dr | with_reducible apply Rd.dr1)) hb
        replace St : Rd u5 pt qt (jt) := Rd.nx (by repeat (first | with_reducible exact St | with_reducible apply Rd.al | with_reducible apply Rd.dr | with_reducible apply Rd.dr1)) hb
        replace K : Kp w u5 := Kp.nx (by repeat (first | with_reducible exact K | with_reducible apply Kp.al | with_reducible apply Kp.dr | with_reducible apply Kp.dr1)) hb
        have St2 : Rd u5 pt2 qt2 (jt2) := ho.rd
        clear ho hb
        go_wp2_with fail
        refine (NR.same_yes (xs := jt) (ys := jt2) (by repeat (first | with_reducible exact St | with_reducible apply Rd.al | with_reducible apply Rd.dr | with_reducible apply Rd.dr1)) (by repeat (first | with_reducible exact St2 | with_reducible apply Rd.al | with_reducible apply Rd.dr | with_reducible apply Rd.dr1)) rfl rfl (Nat.le_trans (NR.len_of Ht.out fx) (by decide)) (Ht.out.trans ((congrArg L (by have := H0.out; omega)).trans Ht2.out.symm))).mono ?_; rintro e u6 ⟨rfl, hb⟩
        replace Sx : Rd u6 a0 cap0 (xs) := Rd.nx (by repeat (first | with_reducible exact Sx | with_reducible apply Rd.al | with_reducible apply Rd.dr | with_reducible apply Rd.dr1)) hb
        replace Sy : Rd u6 a1 cap1 (ys) := Rd.nx (by repeat (first | with_reducible exact Sy | with_reducible apply Rd.al | with_reducible apply Rd.dr | with_reducible apply Rd.dr1)) hb
        replace Sz : Rd u6 a2 cap2 (zs) := Rd.nx (by repeat (first | with_reducible exact Sz | with_reducible apply Rd.al | with_reducible apply Rd.dr | with_reducible apply Rd.dr1)) hb
        replace Sa : Rd u6 pa qa (ja) := Rd.nx (by repeat (first | with_reducible exact Sa | with_reducible apply Rd.al | with_reducible apply Rd.dr | with_reducible apply Rd.dr1)) hb
        replace Sb : Rd u6 pb qb (jb) := Rd.nx (by repeat (first | with_reducible exact Sb | with_reducible apply Rd.al | with_reducible apply Rd.dr | with_reducible apply Rd.dr1)) hb
        replace St : Rd u6 pt qt (jt) := Rd.nx (by repeat (first | with_reducible exact St | with_reducible apply Rd.al | with_reducible apply Rd.dr | with_reducible apply Rd.dr1)) hb
        replace St2 : Rd u6 pt2 qt2 (jt2) := Rd.nx (by repeat (first | with_reducible exact St2 | with_reducible apply Rd.al | with_reducible apply Rd.dr | with_reducible apply Rd.dr1)) hb
        replace K : Kp w u6 := Kp.nx (by repeat (first | with_reducible exact K | with_reducible apply Kp.al | with_reducible apply Kp.dr | with_reducible apply Kp.dr1)) hb
        clear hb
        clear Sa
        clear Sb
        clear St
        clear St2
        go_wp2_with fail
        refine (NR.cmp (xs := ys) (ys := zs) (by repeat (first | with_reducible exact Sy | with_reducible apply Rd.al | with_reducible apply Rd.dr | with_reducible apply Rd.dr1)) (by repeat (first | with_reducible exact Sz | with_reducible apply Rd.al | with_reducible apply Rd.dr | with_reducible apply Rd.dr1)) rfl rfl (by omega) (by omega) (i1) Hi1.out).mono ?_; rintro e w' ⟨rfl, rfl⟩
        obtain ⟨jp, hjp⟩ : ∃ z : List Nat, z = L ((V xs) * (V zs)) := ⟨_, rfl⟩
        have Np : Hid (V jp = (V xs) * (V zs)) := Lib.hid (by rw [hjp, V_L])
        have Hp := Lib.hid hjp; clear hjp
        go_wp2_with fail
        refine (NR.mul (xs := xs) (ys := zs) (zs := jp) (by repeat (first | with_reducible exact Sx | with_reducible apply Rd.al | with_reducible apply Rd.dr | with_reducible apply Rd.dr1)) (by repeat (first | with_reducible exact Sz | with_reducible apply Rd.al | with_reducible apply Rd.dr | with_reducible apply Rd.dr1)) rfl rfl (by omega) (by omega)  (Hp.out.trans (congrArg L (by first | with_reducible rfl | simp only [LN.V_nil, LN.V_one])))).mono ?_; rintro e u7 ⟨pp, qp, rfl, ho, hb⟩
        replace Sx : Rd u7 a0 cap0 (xs) := Rd.nx (by repeat (first | with_reducible exact Sx | with_reducible apply Rd.al | with_reducible apply Rd.dr | with_reducible apply Rd.dr1)) hb
        replace Sy : Rd u7 a1 cap1 (ys) := Rd.nx (by repeat (first | with_reducible exact Sy | with_reducible apply Rd.al | with_reducible apply Rd.dr | with_reducible apply Rd.dr1)) hb
        replace Sz : Rd u7 a2 cap2 (zs) := Rd.nx (by repeat (first | with_reducible exact Sz | with_reducible apply Rd.al | with_reducible apply Rd.dr | with_reducible apply Rd.dr1)) hb
        replace K : Kp w u7 := Kp.nx (by repeat (first | with_reducible exact K | with_reducible apply Kp.al | with_reducible apply Kp.dr | with_reducible apply Kp.dr1)) hb
        have Sp : Rd u7 pp qp (jp) := ho.rd
        clear ho hb
        obtain ⟨jq, hjq⟩ : ∃ z : List Nat, z = L ((V ys) * (V zs)) := ⟨_, rfl⟩
        have Nq : Hid (V jq = (V ys) * (V zs)) := Lib.hid (by rw [hjq, V_L])
        have Hq := Lib.hid hjq; clear hjq
        go_wp2_with fail
        refine (NR.mul (xs := ys) (ys := zs) (zs := jq) (by repeat (first | with_reducible exact Sy | with_reducible apply Rd.al | with_reducible apply Rd.dr | with_reducible apply Rd.dr1)) (by repeat (first | with_reducible exact Sz | with_reducible apply Rd.al | with_reducible apply Rd.dr | with_reducible apply Rd.dr1)) rfl rfl (by omega) (by omega)  (Hq.out.trans (congrArg L (by first | with_reducible rfl | simp only [LN.V_nil, LN.V_one])))).mono ?_; rintro e u8 ⟨pq, qq, rfl, ho, hb⟩
        replace Sx : Rd u8 a0 cap0 (xs) := Rd.nx (by repeat (first | with_reducible exact Sx | with_reducible apply Rd.al | with_reducible apply Rd.dr | with_reducible apply Rd.dr1)) hb
        replace Sy : Rd u8 a1 cap1 (ys) := Rd.nx (by repeat (first | with_reducible exact Sy | with_reducible apply Rd.al | with_reducible apply Rd.dr | with_reducible apply Rd.dr1)) hb
        replace Sz : Rd u8 a2 cap2 (zs) := Rd.nx (by repeat (first | with_reducible exact Sz | with_reducible apply Rd.al | with_reducible apply Rd.dr | with_reducible apply Rd.dr1)) hb
        replace Sp : Rd u8 pp qp (jp) := Rd.nx (by repeat (first | with_reducible exact Sp | with_reducible apply Rd.al | with_reducible apply Rd.dr | with_reducible apply Rd.dr1)) hb
        replace K : Kp w u8 := Kp.nx (by repeat (first | with_reducible exact K | with_reducible apply Kp.al | with_reducible apply Kp.dr | with_reducible apply Kp.dr1)) hb
        have Sq : Rd u8 pq qq (jq) := ho.rd
        clear ho hb
        go_wp2_with fail
        refine (NR.cmp (xs := jp) (ys := jq) (by repeat (first | with_reducible exact Sp | with_reducible apply Rd.al | with_reducible apply Rd.dr | with_reducible apply Rd.dr1)) (by repeat (first | with_reducible exact Sq | with_reducible apply Rd.al | with_reducible apply Rd.dr | with_reducible apply Rd.dr1)) rfl rfl (Nat.le_trans (NR.len_of Hp.out (fx.mul fz)) (by decide)) (Nat.le_trans (NR.len_of Hq.out (fy.mul fz)) (by decide)) (0) (cmp_eq (by rw [Np.out, Nq.out, H0.out]))).mono ?_; rintro e w' ⟨rfl, rfl⟩
        go_wp2_with fail
        refine (NR.zero (xs := zs) (by repeat (first | with_reducible exact Sz | with_reducible apply Rd.al | with_reducible apply Rd.dr | with_reducible apply Rd.dr1)) rfl (by omega) false (by have := Hc.out; symm; rw [beq_eq_false_iff_ne]; exact this)).mono ?_; rintro e w' ⟨rfl, rfl⟩
        go_wp2_with fail
        refine (NR.zero (xs := zs) (by repeat (first | with_reducible exact Sz | with_reducible apply Rd.al | with_reducible apply Rd.dr | with_reducible apply Rd.dr1)) rfl (by omega) false (by have := Hc.out; symm; rw [beq_eq_false_iff_ne]; exact this)).mono ?_; rintro e w' ⟨rfl, rfl⟩
        go_wp2_with fail
        go_ret
        exact ⟨rfl, Kp.below (by repeat (first | with_reducible exact K | with_reducible apply Kp.al | with_reducible apply Kp.dr | with_reducible apply Kp.dr1))⟩
  · have H0 := Lib.hid h0; clear h0
    by_cases hc : V zs = 0
    · have Hc := Lib.hid hc; clear hc
      clear ri1
      go_enter Try.func6, Try.ntmps6
      go_wp2_with fail
      refine (LN.long3 (by simp) false HZ).mono ?_; rintro e w' ⟨rfl, rfl⟩
      go_wp2_with fail
      refine (LN.awake _).mono ?_; rintro e u1 ⟨rfl, hb⟩
      replace Sx : Rd u1 a0 cap0 (xs) := Rd.nx (by repeat (first | with_reducible exact Sx | with_reducible apply Rd.al | with_reducible apply Rd.dr | with_reducible apply Rd.dr1)) hb
      replace Sy : Rd u1 a1 cap1 (ys) := Rd.nx (by repeat (first | with_reducible exact Sy | with_reducible apply Rd.al | with_reducible apply Rd.dr | with_reducible apply Rd.dr1)) hb
      replace Sz : Rd u1 a2 cap2 (zs) := Rd.nx (by repeat (first | with_reducible exact Sz | with_reducible apply Rd.al | with_reducible apply Rd.dr | with_reducible apply Rd.dr1)) hb
      replace K : Kp w u1 := Kp.nx (by repeat (first | with_reducible exact K | with_reducible apply Kp.al | with_reducible apply Kp.dr | with_reducible apply Kp.dr1)) hb
      clear hb
      go_wp2_with fail
      refine (NR.cmp (xs := xs) (ys := ys) (by repeat (first | with_reducible exact Sx | with_reducible apply Rd.al | with_reducible apply Rd.dr | with_reducible apply Rd.dr1)) (by repeat (first | with_reducible exact Sy | with_reducible apply Rd.al | with_reducible apply Rd.dr | with_reducible apply Rd.dr1)) rfl rfl (by omega) (by omega) (1) (cmp_gt H0.out)).mono ?_; rintro e w' ⟨rfl, rfl⟩
      go_wp2_with fail
      refine (NR.cmp (xs := ys) (ys := xs) (by repeat (first | with_reducible exact Sy | with_reducible apply Rd.al | with_reducible apply Rd.dr | with_reducible apply Rd.dr1)) (by repeat (first | with_reducible exact Sx | with_reducible apply Rd.al | with_reducible apply Rd.dr | with_reducible apply Rd.dr1)) rfl rfl (by omega) (by omega) (-1) (cmp_lt (by have := H0.out; omega))).mono ?_; rintro e w' ⟨rfl, rfl⟩
      obtain ⟨ja, hja⟩ : ∃ z : List Nat, z = L ((V xs) + (V zs)) := ⟨_, rfl⟩
      have Na : Hid (V ja = (V xs) + (V zs)) := Lib.hid (by rw [hja, V_L])
      have Ha := Lib.hid hja; clear hja
      go_wp2_with fail
      refine (NR.add (xs := xs) (ys := zs) (zs := ja) (by repeat (first | with_reducible exact Sx | with_reducible apply Rd.al | with_reducible apply Rd.dr | with_reducible apply Rd.dr1)) (by repeat (first | with_reducible exact Sz | with_reducible apply Rd.al | with_reducible apply Rd.dr | with_reducible apply Rd.dr1)) rfl rfl (by omega) (by omega)  (Ha.out.trans (congrArg L (by first | with_reducible rfl | simp only [LN.V_nil, LN.V_one])))).mono ?_; rintro e u2 ⟨pa, qa, rfl, ho, hb⟩
      replace Sx : Rd u2 a0 cap0 (xs) := Rd.nx (by repeat (first | with_reducible exact Sx | with_reducible apply Rd.al | with_reducible apply Rd.dr | with_reducible apply Rd.dr1)) hb
      replace Sy : Rd u2 a1 cap1 (ys) := Rd.nx (by repeat (first | with_reducible exact Sy | with_reducible apply Rd.al | with_reducible apply Rd.dr | with_reducible apply Rd.dr1)) hb
      replace Sz : Rd u2 a2 cap2 (zs) := Rd.nx (by repeat (first | with_reducible exact Sz | with_reducible apply Rd.al | with_reducible apply Rd.dr | with_reducible apply Rd.dr1)) hb
      replace K : Kp w u2 := Kp.nx (by repeat (first | with_reducible exact K | with_reducible apply Kp.al | with_reducible apply Kp.dr | with_reducible apply Kp.dr1)) hb
      have Sa : Rd u2 pa qa (ja) := ho.rd
      clear ho hb
      obtain ⟨jb, hjb⟩ : ∃ z : List Nat, z = L ((V ys) + (V zs)) := ⟨_, rfl⟩
      have Nb : Hid (V jb = (V ys) + (V zs)) := Lib.hid (by rw [hjb, V_L])
      have Hb := Lib.hid hjb; clear hjb
      go_wp2_with fail
      refine (NR.add (xs := ys) (ys := zs) (zs := jb) (by repeat (first | with_reducible exact Sy | with_reducible apply Rd.al | with_reducible apply Rd.dr | with_reducible apply Rd.dr1)) (by repeat (first | with_reducible exact Sz | with_reducible apply Rd.al | with_reducible apply Rd.dr | with_reducible apply Rd.dr1)) rfl rfl (by omega) (by omega)  (Hb.out.trans (congrArg L (by first | with_reducible rfl | simp only [LN.V_nil, LN.V_one])))).mono ?_; rintro e u3 ⟨pb, qb, rfl, ho, hb⟩
      replace Sx : Rd u3 a0 cap0 (xs) := Rd.nx (by repeat (first | with_reducible exact Sx | with_reducible apply Rd.al | with_reducible apply Rd.dr | with_reducible apply Rd.dr1)) hb
      replace Sy : Rd u3 a1 cap1 (ys) := Rd.nx (by repeat (first | with_reducible exact Sy | with_reducible apply Rd.al | with_reducible apply Rd.dr | with_reducible apply Rd.dr1)) hb
      replace Sz : Rd u3 a2 cap2 (zs) := Rd.nx (by repeat (first | with_reducible exact Sz | with_reducible apply Rd.al | with_reducible apply Rd.dr | with_reducible apply Rd.dr1)) hb
      replace Sa : Rd u3 pa qa (ja) := Rd.nx (by repeat (first | with_reducible exact Sa | with_reducible apply Rd.al | with_reducible apply Rd.dr | with_reducible apply Rd.dr1)) hb
      replace K : Kp w u3 := Kp.nx (by repeat (first | with_reducible exact K | with_reducible apply Kp.al | with_reducible apply Kp.dr | with_reducible apply Kp.dr1)) hb
      have Sb : Rd u3 pb qb (jb) := ho.rd
      clear ho hb
      go_wp2_with fail
      refine (NR.cmp (xs := ja) (ys := jb) (by repeat (first | with_reducible exact Sa | with_reducible apply Rd.al | with_reducible apply Rd.dr | with_reducible apply Rd.dr1)) (by repeat (first | with_reducible exact Sb | with_reducible apply Rd.al | with_reducible apply Rd.dr | with_reducible apply Rd.dr1)) rfl rfl (Nat.le_trans (NR.len_of Ha.out (fx.add fz)) (by decide)) (Nat.le_trans (NR.len_of Hb.out (fy.add fz)) (by decide)) (1) (cmp_gt (by rw [Na.out, Nb.out]; have := H0.out; omega))).mono ?_; rintro e w' ⟨rfl, rfl⟩
      obtain ⟨jt, hjt⟩ : ∃ z : List Nat, z = L (V xs) := ⟨_, rfl⟩
      have Nt : Hid (V jt = V xs) := Lib.hid (by rw [hjt, V_L])
      have Ht := Lib.hid hjt; clear hjt
      go_wp2_with fail
      refine (NR.trim (xs := xs) (zs := jt) (by repeat (first | with_reducible exact Sx | with_reducible apply Rd.al | with_reducible apply Rd.dr | with_reducible apply Rd.dr1)) rfl (by omega)  (Ht.out.trans (congrArg L (by first | with_reducible rfl | simp only [LN.V_nil, LN.V_one])))).mono ?_; rintro e u4 ⟨pt, qt, rfl, ho, hb⟩
      replace Sx : Rd u4 a0 cap0 (xs) := Rd.nx (by repeat (first | with_reducible exact Sx | with_reducible apply Rd.al | with_reducible apply Rd.dr | with_reducible apply Rd.dr1)) hb
      replace Sy : Rd u4 a1 cap1 (ys) := Rd.nx (by repeat (first | with_reducible exact Sy | with_reducible apply Rd.al | with_reducible apply Rd.dr | with_reducible apply Rd.dr1)) hb
      replace Sz : Rd u4 a2 cap2 (zs) := Rd.nx (by repeat (first | with_reducible exact Sz | with_reducible apply Rd.al | with_reducible apply Rd.dr | with_reducible apply Rd.dr1)) hb
      replace Sa : Rd u4 pa qa (ja) := Rd.nx (by repeat (first | with_reducible exact Sa | with_reducible apply Rd.al | with_reducible apply Rd.dr | with_reducible apply Rd.dr1)) hb
      replace Sb : Rd u4 pb qb (jb) := Rd.nx (by repeat (first | with_reducible exact Sb | with_reducible apply Rd.al | with_reducible apply Rd.dr | with_reducible apply Rd.dr1)) hb
      replace K : Kp w u4 := Kp.nx (by repeat (first | with_reducible exact K | with_reducible apply Kp.al | with_reducible apply Kp.dr | with_reducible apply Kp.dr1)) hb
      have St : Rd u4 pt qt (jt) := ho.rd
      clear ho hb
      obtain ⟨jt2, hjt2⟩ : ∃ z : List Nat, z = L (V ys) := ⟨_, rfl⟩
      have Nt2 : Hid (V jt2 = V ys) := Lib.hid (by rw [hjt2, V_L])
      have Ht2 := Lib.hid hjt2; clear hjt2
      go_wp2_with fail
      refine (NR.trim (xs := ys) (zs := jt2) (by repeat (first | with_reducible exact Sy | with_reducible apply Rd.al | with_reducible apply Rd.dr | with_reducible apply Rd.dr1)) rfl (by omega)  (Ht2.out.trans (congrArg L (by first | with_reducible rfl | simp only [LN.V_nil, LN.V_one])))).mono ?_; rintro e u5 ⟨pt2, qt2, rfl, ho, hb⟩
      replace Sx : Rd u5 a0 cap0 (xs) := Rd.nx (by repeat (first | with_reducible exact Sx | with_reducible apply Rd.al | with_reducible apply Rd.dr | with_reducible apply Rd.dr1)) hb
      replace Sy : Rd u5 a1 cap1 (ys) := Rd.nx (by repeat (first | with_reducible exact Sy | with_reducible apply Rd.al | with_reducible apply Rd.dr | with_reducible apply Rd.dr1)) hb
      replace Sz : Rd u5 a2 cap2 (zs) := Rd.nx (by repeat (first | with_reducible exact Sz | with_reducible apply Rd.al | with_reducible apply Rd.dr | with_reducible apply Rd.dr1)) hb
      replace Sa : Rd u5 pa qa (ja) := Rd.nx (by repeat (first | with_reducible exact Sa | with_reducible apply Rd.al | with_reducible apply Rd.dr | with_reducible apply Rd.dr1)) hb
      replace Sb : Rd u5 pb qb (jb) := Rd.nx (by repeat (first | with_reducible exact Sb | with_reducible apply Rd.al | with_reducible apply Rd.dr | with_reducible apply Rd.dr1)) hb
      replace St : Rd u5 pt qt (jt) := Rd.nx (by repeat (first | with_reducible exact St | with_reducible apply Rd.al | with_reducible apply Rd.dr | with_reducible apply Rd.dr1)) hb
      replace K : Kp w u5 := Kp.nx (by repeat (first | with_reducible exact K | with_reducible apply Kp.al | with_reducible apply Kp.dr | with_reducible apply Kp.dr1)) hb
      have St2 : Rd u5 pt2 qt2 (jt2) := ho.rd
      clear ho hb
      go_wp2_with fail
      refine (NR.same (xs := jt) (ys := jt2) (by repeat (first | with_reducible exact St | with_reducible apply Rd.al | with_reducible apply Rd.dr | with_reducible apply Rd.dr1)) (by repeat (first | with_reducible exact St2 | with_reducible apply Rd.al | with_reducible apply Rd.dr | with_reducible apply Rd.dr1)) rfl rfl (Nat.le_trans (NR.len_of Ht.out fx) (by decide)) false (by have := H0.out; rw [Ht.out, Ht2.out]; symm; rw [beq_eq_false_iff_ne]; intro e; have := L_inj e; omega)).mono ?_; rintro e u6 ⟨rfl, hb⟩
      replace Sx : Rd u6 a0 cap0 (xs) := Rd.nx (by repeat (first | with_reducible exact Sx | with_reducible apply Rd.al | with_reducible apply Rd.dr | with_reducible apply Rd.dr1)) hb
      replace Sy : Rd u6 a1 cap1 (ys) := Rd.nx (by repeat (first | with_reducible exact Sy | with_reducible apply Rd.al | with_reducible apply Rd.dr | with_reducible apply Rd.dr1)) hb
      replace Sz : Rd u6 a2 cap2 (zs) := Rd.nx (by repeat (first | with_reducible exact Sz | with_reducible apply Rd.al | with_reducible apply Rd.dr | with_reducible apply Rd.dr1)) hb
      replace Sa : Rd u6 pa qa (ja) := Rd.nx (by repeat (first | with_reducible exact Sa | with_reducible apply Rd.al | with_reducible apply Rd.dr | with_reducible apply Rd.dr1)) hb
      replace Sb : Rd u6 pb qb (jb) := Rd.nx (by repeat (first | with_reducible exact Sb | with_reducible apply Rd.al | with_reducible apply Rd.dr | with_reducible apply Rd.dr1)) hb
      replace St : Rd u6 pt qt (jt) := Rd.nx (by repeat (first | with_reducible exact St | with_reducible apply Rd.al | with_reducible apply Rd.dr | with_reducible apply Rd.dr1)) hb
      replace St2 : Rd u6 pt2 qt2 (jt2) := Rd.nx (by repeat (first | with_reducible exact St2 | with_reducible apply Rd.al | with_reducible apply Rd.dr | with_reducible apply Rd.dr1)) hb
      replace K : Kp w u6 := Kp.nx (by repeat (first | with_reducible exact K | with_reducible apply Kp.al | with_reducible apply Kp.dr | with_reducible apply Kp.dr1)) hb
      clear hb
      clear Sa
      clear Sb
      clear St
      clear St2
      obtain ⟨jp, hjp⟩ : ∃ z : List Nat, z = L ((V xs) * (V zs)) := ⟨_, rfl⟩
      have Np : Hid (V jp = (V xs) * (V zs)) := Lib.hid (by rw [hjp, V_L])
      have Hp := Lib.hid hjp; clear hjp
      go_wp2_with fail
      refine (NR.mul (xs := xs) (ys := zs) (zs := jp) (by repeat (first | with_reducible exact Sx | with_reducible apply Rd.al | with_reducible apply Rd.dr | with_reducible apply Rd.dr1)) (by repeat (first | with_reducible exact Sz | with_reducible apply Rd.al | with_reducible apply Rd.dr | with_reducible apply Rd.dr1)) rfl rfl (by omega) (by omega)  (Hp.out.trans (congrArg L (by first | with_reducible rfl | simp only [LN.V_nil, LN.V_one])))).mono ?_; rintro e u7 ⟨pp, qp, rfl, ho, hb⟩
      replace Sx : Rd u7 a0 cap0 (xs) := Rd.nx (by repeat (first | with_reducible exact Sx | with_reducible apply Rd.al | with_reducible apply Rd.dr | with_reducible apply Rd.dr1)) hb
      replace Sy : Rd u7 a1 cap1 (ys) := Rd.nx (by repeat (first | with_reducible exact Sy | with_reducible apply Rd.al | with_reducible apply Rd.dr | with_reducible apply Rd.dr1)) hb
      replace Sz : Rd u7 a2 cap2 (zs) := Rd.nx (by repeat (first | with_reducible exact Sz | with_reducible apply Rd.al | with_reducible apply Rd.dr | with_reducible apply Rd.dr1)) hb
      replace K : Kp w u7 := Kp.nx (by repeat (first | with_reducible exact K | with_reducible apply Kp.al | with_reducible apply Kp.dr | with_reducible apply Kp.dr1)) hb
      have Sp : Rd u7 pp qp (jp) := ho.rd
      clear ho hb
      obtain ⟨jq, hjq⟩ : ∃ z : List Nat, z = L ((V ys) * (V zs)) := ⟨_, rfl⟩
      have Nq : Hid (V jq = (V ys) * (V zs)) := Lib.hid (by rw [hjq, V_L])
      have Hq := Lib.hid hjq; clear hjq
      go_wp2_with fail
      refine (NR.mul (xs := ys) (ys := zs) (zs := jq) (by repeat (first | with_reducible exact Sy | with_reducible apply Rd.al | with_reducible apply Rd.dr | with_reducible apply Rd.dr1)) (by repeat (first | with_reducible exact Sz | with_reducible apply Rd.al | with_reducible apply Rd.dr | with_reducible apply Rd.dr1)) rfl rfl (by omega) (by omega)  (Hq.out.trans (congrArg L (by first | with_reducible rfl | simp only [LN.V_nil, LN.V_one])))).mono ?_; rintro e u8 ⟨pq, qq, rfl, ho, hb⟩
      replace Sx : Rd u8 a0 cap0 (xs) := Rd.nx (by repeat (first | with_reducible exact Sx | with_reducible apply Rd.al | with_reducible apply Rd.dr | with_reducible apply Rd.dr1)) hb
      replace Sy : Rd u8 a1 cap1 (ys) := Rd.nx (by repeat (first | with_reducible exact Sy | with_reducible apply Rd.al | with_reducible apply Rd.dr | with_reducible apply Rd.dr1)) hb
      replace Sz : Rd u8 a2 cap2 (zs) := Rd.nx (by repeat (first | with_reducible exact Sz | with_reducible apply Rd.al | with_reducible apply Rd.dr | with_reducible apply Rd.dr1)) hb
      replace Sp : Rd u8 pp qp (jp) := Rd.nx (by repeat (first | with_reducible exact Sp | with_reducible apply Rd.al | with_reducible apply Rd.dr | with_reducible apply Rd.dr1)) hb
      replace K : Kp w u8 := Kp.nx (by repeat (first | with_reducible exact K | with_reducible apply Kp.al | with_reducible apply Kp.dr | with_reducible apply Kp.dr1)) hb
      have Sq : Rd u8 pq qq (jq) := ho.rd
      clear ho hb
      go_wp2_with fail
      refine (NR.cmp (xs := jp) (ys := jq) (by repeat (first | with_reducible exact Sp | with_reducible apply Rd.al | with_reducible apply Rd.dr | with_reducible apply Rd.dr1)) (by repeat (first | with_reducible exact Sq | with_reducible apply Rd.al | with_reducible apply Rd.dr | with_reducible apply Rd.dr1)) rfl rfl (Nat.le_trans (NR.len_of Hp.out (fx.mul fz)) (by decide)) (Nat.le_trans (NR.len_of Hq.out (fy.mul fz)) (by decide)) (0) (cmp_eq (by rw [Np.out, Nq.out, Hc.out]; rfl))).mono ?_; rintro e w' ⟨rfl, rfl⟩
      go_wp2_with fail
      refine (NR.zero (xs := zs) (by repeat (first | with_reducible exact Sz | with_reducible apply Rd.al | with_reducible apply Rd.dr | with_reducible apply Rd.dr1)) rfl (by omega) true (by rw [Hc.out]; rfl)).mono ?_; rintro e w' ⟨rfl, rfl⟩
      go_wp2_with fail
      go_ret
      exact ⟨rfl, Kp.below (by repeat (first | with_reducible exact K | with_reducible apply Kp.al | with_reducible apply Kp.dr | with_reducible apply Kp.dr1))⟩
    · have Hc := Lib.hid hc; clear hc
      clear ri1
      go_enter Try.func6, Try.ntmps6
      go_wp2_with fail
      refine (LN.long3 (by simp) false HZ).mono ?_; rintro e w' ⟨rfl, rfl⟩
      go_wp2_with fail
      refine (LN.awake _).mono ?_; rintro e u1 ⟨rfl, hb⟩
      replace Sx : Rd u1 a0 cap0 (xs) := Rd.nx (by repeat (first | with_reducible exact Sx | with_reducible apply Rd.al | with_reducible apply Rd.dr | with_reducible apply Rd.dr1)) hb
      replace Sy : Rd u1 a1 cap1 (ys) := Rd.nx (by repeat (first | with_reducible exact Sy | with_reducible apply Rd.al | with_reducible apply Rd.dr | with_reducible apply Rd.dr1)) hb
      replace Sz : Rd u1 a2 cap2 (zs) := Rd.nx (by repeat (first | with_reducible exact Sz | with_reducible apply Rd.al | with_reducible apply Rd.dr | with_reducible apply Rd.dr1)) hb
      replace K : Kp w u1 := Kp.nx (by repeat (first | with_reducible exact K | with_reducible apply Kp.al | with_reducible apply Kp.dr | with_reducible apply Kp.dr1)) hb
      clear hb
      go_wp2_with fail
      refine (NR.cmp (xs := xs) (ys := ys) (by repeat (first | with_reducible exact Sx | with_reducible apply Rd.al | with_reducible apply Rd.dr | with_reducible apply Rd.dr1)) (by repeat (first | with_reducible exact Sy | with_reducible apply Rd.al | with_reducible apply Rd.dr | with_reducible apply Rd.dr1)) rfl rfl (by omega) (by omega) (1) (cmp_gt H0.out)).mono ?_; rintro e w' ⟨rfl, rfl⟩
      go_wp2_with fail
      refine (NR.cmp (xs := ys) (ys := xs) (by repeat (first | with_reducible exact Sy | with_reducible apply Rd.al | with_reducible apply Rd.dr | with_reducible apply Rd.dr1)) (by repeat (first | with_reducible exact Sx | with_reducible apply Rd.al | with_reducible apply Rd.dr | with_reducible apply Rd.dr1)) rfl rfl (by omega) (by omega) (-1) (cmp_lt (by have := H0.out; omega))).mono ?_; rintro e w' ⟨rfl, rfl⟩
      obtain ⟨ja, hja⟩ : ∃ z : List Nat, z = L ((V xs) + (V zs)) := ⟨_, rfl⟩
      have Na : Hid (V ja = (V xs) + (V zs)) := Lib.hid (by rw [hja, V_L])
      have Ha := Lib.hid hja; clear hja
      go_wp2_with fail
      refine (NR.add (xs := xs) (ys := zs) (zs := ja) (by repeat (first | with_reducible exact Sx | with_reducible apply Rd.al | with_reducible apply Rd.dr | with_reducible apply Rd.dr1)) (by repeat (first | with_reducible exact Sz | with_reducible apply Rd.al | with_reducible apply Rd.dr | with_reducible apply Rd.dr1)) rfl rfl (by omega) (by omega)  (Ha.out.trans (congrArg L (by first | with_reducible rfl | simp only [LN.V_nil, LN.V_one])))).mono ?_; rintro e u2 ⟨pa, qa, rfl, ho, hb⟩
      replace Sx : Rd u2 a0 cap0 (xs) := Rd.nx (by repeat (first | with_reducible exact Sx | with_reducible apply Rd.al | with_reducible apply Rd.dr | with_reducible apply Rd.dr1)) hb
      replace Sy : Rd u2 a1 cap1 (ys) := Rd.nx (by repeat (first | with_reducible exact Sy | with_reducible apply Rd.al | with_reducible apply Rd.dr | with_reducible apply Rd.dr1)) hb
      replace Sz : Rd u2 a2 cap2 (zs) := Rd.nx (by repeat (first | with_reducible exact Sz | with_reducible apply Rd.al | with_reducible apply Rd.dr | with_reducible apply Rd.dr1)) hb
      replace K : Kp w u2 := Kp.nx (by repeat (first | with_reducible exact K | with_reducible apply Kp.al | with_reducible apply Kp.dr | with_reducible apply Kp.dr1)) hb
      have Sa : Rd u2 pa qa (ja) := ho.rd
      clear ho hb
      obtain ⟨jb, hjb⟩ : ∃ z : List Nat, z = L ((V ys) + (V zs)) := ⟨_, rfl⟩
      have Nb : Hid (V jb = (V ys) + (V zs)) := Lib.hid (by rw [hjb, V_L])
      have Hb := Lib.hid hjb; clear hjb
      go_wp2_with fail
      refine (NR.add (xs := ys) (ys := zs) (zs := jb) (by repeat (first | with_reducible exact Sy | with_reducible apply Rd.al | with_reducible apply Rd.dr | with_reducible apply Rd.dr1)) (by repeat (first | with_reducible exact Sz | with_reducible apply Rd.al | with_reducible apply Rd.dr | with_reducible apply Rd.dr1)) rfl rfl (by omega) (by omega)  (Hb.out.trans (congrArg L (by first | with_reducible rfl | simp only [LN.V_nil, LN.V_one])))).mono ?_; rintro e u3 ⟨pb, qb, rfl, ho, hb⟩
      replace Sx : Rd u3 a0 cap0 (xs) := Rd.nx (by repeat (first | with_reducible exact Sx | with_reducible apply Rd.al | with_reducible apply Rd.dr | with_reducible apply Rd.dr1)) hb
      replace Sy : Rd u3 a1 cap1 (ys) := Rd.nx (by repeat (first | with_reducible exact Sy | with_reducible apply Rd.al | with_reducible apply Rd.dr | with_reducible apply Rd.dr1)) hb
      replace Sz : Rd u3 a2 cap2 (zs) := Rd.nx (by repeat (first | with_reducible exact Sz | with_reducible apply Rd.al | with_reducible apply Rd.dr | with_reducible apply Rd.dr1)) hb
      replace Sa : Rd u3 pa qa (ja) := Rd.nx (by repeat (first | with_reducible exact Sa | with_reducible apply Rd.al | with_reducible apply Rd.dr | with_reducible apply Rd.dr1)) hb
      replace K : Kp w u3 := Kp.nx (by repeat (first | with_reducible exact K | with_reducible apply Kp.al | with_reducible apply Kp.dr | with_reducible apply Kp.dr1)) hb
      have Sb : Rd u3 pb qb (jb) := ho.rd
      clear ho hb
      go_wp2_with fail
      refine (NR.cmp (xs := ja) (ys := jb) (by repeat (first | with_reducible exact Sa | with_reducible apply Rd.al | with_reducible apply Rd.dr | with_reducible apply Rd.dr1)) (by repeat (first | with_reducible exact Sb | with_reducible apply Rd.al | with_reducible apply Rd.dr | with_reducible apply Rd.dr1)) rfl rfl (Nat.le_trans (NR.len_of Ha.out (fx.add fz)) (by decide)) (Nat.le_trans (NR.len_of Hb.out (fy.add fz)) (by decide)) (1) (cmp_gt (by rw [Na.out, Nb.out]; have := H0.out; omega))).mono ?_; rintro e w' ⟨rfl, rfl⟩
      obtain ⟨jt, hjt⟩ : ∃ z : List Nat, z = L (V xs) := ⟨_, rfl⟩
      have Nt : Hid (V jt = V xs) := Lib.hid (by rw [hjt, V_L])
      have Ht := Lib.hid hjt; clear hjt
      go_wp2_with fail
      refine (NR.trim (xs := xs) (zs := jt) (by repeat (first | with_reducible exact Sx | with_reducible apply Rd.al | with_reducible apply Rd.dr | with_reducible apply Rd.dr1)) rfl (by omega)  (Ht.out.trans (congrArg L (by first | with_reducible rfl | simp only [LN.V_nil, LN.V_one])))).mono ?_; rintro e u4 ⟨pt, qt, rfl, ho, hb⟩
      replace Sx : Rd u4 a0 cap0 (xs) := Rd.nx (by repeat (first | with_reducible exact Sx | with_reducible apply Rd.al | with_reducible apply Rd.dr | with_reducible apply Rd.dr1)) hb
      replace Sy : Rd u4 a1 cap1 (ys) := Rd.nx (by repeat (first | with_reducible exact Sy | with_reducible apply Rd.al | with_reducible apply Rd.dr | with_reducible apply Rd.dr1)) hb
      replace Sz : Rd u4 a2 cap2 (zs) := Rd.nx (by repeat (first | with_reducible exact Sz | with_reducible apply Rd.al | with_reducible apply Rd.dr | with_reducible apply Rd.dr1)) hb
      replace Sa : Rd u4 pa qa (ja) := Rd.nx (by repeat (first | with_reducible exact Sa | with_reducible apply Rd.al | with_reducible apply Rd.dr | with_reducible apply Rd.dr1)) hb
      replace Sb : Rd u4 pb qb (jb) := Rd.nx (by repeat (first | with_reducible exact Sb | with_reducible apply Rd.al | with_reducible apply Rd.dr | with_reducible apply Rd.dr1)) hb
      replace K : Kp w u4 := Kp.nx (by repeat (first | with_reducible exact K | with_reducible apply Kp.al | with_reducible apply Kp.dr | with_reducible apply Kp.dr1)) hb
      have St : Rd u4 pt qt (jt) := ho.rd
      clear ho hb
      obtain ⟨jt2, hjt2⟩ : ∃ z : List Nat, z = L (V ys) := ⟨_, rfl⟩
      have Nt2 : Hid (V jt2 = V ys) := Lib.hid (by rw [hjt2, V_L])
      have Ht2 := Lib.hid hjt2; clear hjt2
      go_wp2_with fail
      refine (NR.trim (xs := ys) (zs := jt2) (by repeat (first | with_reducible exact Sy | with_reducible apply Rd.al | with_reducible apply Rd.dr | with_reducible apply Rd.dr1)) rfl (by omega)  (Ht2.out.trans (congrArg L (by first | with_reducible rfl | simp only [LN.V_nil, LN.V_one])))).mono ?_; rintro e u5 ⟨pt2, qt2, rfl, ho, hb⟩
      replace Sx : Rd u5 a0 cap0 (xs) := Rd.nx (by repeat (first | with_reducible exact Sx | with_reducible apply Rd.al | with_reducible apply Rd.dr | with_reducible apply Rd.dr1)) hb
      replace Sy : Rd u5 a1 cap1 (ys) := Rd.nx (by repeat (first | with_reducible exact Sy | with_reducible apply Rd.al | with_reducible apply Rd.dr | with_reducible apply Rd.dr1)) hb
      replace Sz : Rd u5 a2 cap2 (zs) := Rd.nx (by repeat (first | with_reducible exact Sz | with_reducible apply Rd.al | with_reducible apply Rd.dr | with_reducible apply Rd.dr1)) hb
      replace Sa : Rd u5 pa qa (ja) := Rd.nx (by repeat (first | with_reducible exact Sa | with_reducible apply Rd.al | with_reducible apply Rd.dr | with_reducible apply Rd.dr1)) hb
      replace Sb : Rd u5 pb qb (jb) := Rd.nx (by repeat (first | with_reducible exact Sb | with_reducible apply Rd.al | with_reducible apply Rd.dr | with_reducible apply Rd.dr1)) hb
      replace St : Rd u5 pt qt (jt) := Rd.nx (by repeat (first | with_reducible exact St | with_reducible apply Rd.al | with_reducible apply Rd.dr | with_reducible apply Rd.dr1)) hb
      replace K : Kp w u5 := Kp.nx (by repeat (first | with_reducible exact K | with_reducible apply Kp.al | with_reducible apply Kp.dr | with_reducible apply Kp.dr1)) hb
      have St2 : Rd u5 pt2 qt2 (jt2) := ho.rd
      clear ho hb
      go_wp2_with fail
      refine (NR.same (xs := jt) (ys := jt2) (by repeat (first | with_reducible exact St | with_reducible apply Rd.al | with_reducible apply Rd.dr | with_reducible apply Rd.dr1)) (by repeat (first | with_reducible exact St2 | with_reducible apply Rd.al | with_reducible apply Rd.dr | with_reducible apply Rd.dr1)) rfl rfl (Nat.le_trans (NR.len_of Ht.out fx) (by decide)) false (by have := H0.out; rw [Ht.out, Ht2.out]; symm; rw [beq_eq_false_iff_ne]; intro e; have := L_inj e; omega)).mono ?_; rintro e u6 ⟨rfl, hb⟩
      replace Sx : Rd u6 a0 cap0 (xs) := Rd.nx (by repeat (first | with_reducible exact Sx | with_reducible apply Rd.al | with_reducible apply Rd.dr | with_reducible apply Rd.dr1)) hb
      replace Sy : Rd u6 a1 cap1 (ys) := Rd.nx (by repeat (first | with_reducible exact Sy | with_reducible apply Rd.al | with_reducible apply Rd.dr | with_reducible apply Rd.dr1)) hb
      replace Sz : Rd u6 a2 cap2 (zs) := Rd.nx (by repeat (first | with_reducible exact Sz | with_reducible apply Rd.al | with_reducible apply Rd.dr | with_reducible apply Rd.dr1)) hb
      replace Sa : Rd u6 pa qa (ja) := Rd.nx (by repeat (first | with_reducible exact Sa | with_reducible apply Rd.al | with_reducible apply Rd.dr | with_reducible apply Rd.dr1)) hb
      replace Sb : Rd u6 pb qb (jb) := Rd.nx (by repeat (first | with_reducible exact Sb | with_reducible apply Rd.al | with_reducible apply Rd.dr | with_reducible apply Rd.dr1)) hb
      replace St : Rd u6 pt qt (jt) := Rd.nx (by repeat (first | with_reducible exact St | with_reducible apply Rd.al | with_reducible apply Rd.dr | with_reducible apply Rd.dr1)) hb
      replace St2 : Rd u6 pt2 qt2 (jt2) := Rd.nx (by repeat (first | with_reducible exact St2 | with_reducible apply Rd.al | with_reducible apply Rd.dr | with_reducible apply Rd.dr1)) hb
      replace K : Kp w u6 := Kp.nx (by repeat (first | with_reducible exact K | with_reducible apply Kp.al | with_reducible apply Kp.dr | with_reducible apply Kp.dr1)) hb
      clear hb
      clear Sa
      clear Sb
      clear St
      clear St2
      obtain ⟨jp, hjp⟩ : ∃ z : List Nat, z = L ((V xs) * (V zs)) := ⟨_, rfl⟩
      have Np : Hid (V jp = (V xs) * (V zs)) := Lib.hid (by rw [hjp, V_L])
      have Hp := Lib.hid hjp; clear hjp
      go_wp2_with fail
      refine (NR.mul (xs := xs) (ys := zs) (zs := jp) (by repeat (first | with_reducible exact Sx | with_reducible apply Rd.al | with_reducible apply Rd.dr | with_reducible apply Rd.dr1)) (by repeat (first | with_reducible exact Sz | with_reducible apply Rd.al | with_reducible apply Rd.dr | with_reducible apply Rd.dr1)) rfl rfl (by omega) (by omega)  (Hp.out.trans (congrArg L (by first | with_reducible rfl | simp only [LN.V_nil, LN.V_one])))).mono ?_; rintro e u7 ⟨pp, qp, rfl, ho, hb⟩
      replace Sx : Rd u7 a0 cap0 (xs) := Rd.nx (by repeat (first | with_reducible exact Sx | with_reducible apply Rd.al | with_reducible apply Rd.dr | with_reducible apply Rd.dr1)) hb
      replace Sy : Rd u7 a1 cap1 (ys) := Rd.nx (by repeat (first | with_reducible exact Sy | with_reducible apply Rd.al | with_reducible apply Rd.dr | with_reducible apply Rd.dr1)) hb
      replace Sz : Rd u7 a2 cap2 (zs) := Rd.nx (by repeat (first | with_reducible exact Sz | with_reducible apply Rd.al | with_reducible apply Rd.dr | with_reducible apply Rd.dr1)) hb
      replace K : Kp w u7 := Kp.nx (by repeat (first | with_reducible exact K | with_reducible apply Kp.al | with_reducible apply Kp.dr | with_reducible apply Kp.dr1)) hb
      have Sp : Rd u7 pp qp (jp) := ho.rd
      clear ho hb
      obtain ⟨jq, hjq⟩ : ∃ z : List Nat, z = L ((V ys) * (V zs)) := ⟨_, rfl⟩
      have Nq : Hid (V jq = (V ys) * (V zs)) := Lib.hid (by rw [hjq, V_L])
      have Hq := Lib.hid hjq; clear hjq
      go_wp2_with fail
      refine (NR.mul (xs := ys) (ys := zs) (zs := jq) (by repeat (first | with_reducible exact Sy | with_reducible apply Rd.al | with_reducible apply Rd.dr | with_reducible apply Rd.dr1)) (by repeat (first | with_reducible exact Sz | with_reducible apply Rd.al | with_reducible apply Rd.dr | with_reducible apply Rd.dr1)) rfl rfl (by omega) (by omega)  (Hq.out.trans (congrArg L (by first | with_reducible rfl | simp only [LN.V_nil, LN.V_one])))).mono ?_; rintro e u8 ⟨pq, qq, rfl, ho, hb⟩
      replace Sx : Rd u8 a0 cap0 (xs) := Rd.nx (by repeat (first | with_reducible exact Sx | with_reducible apply Rd.al | with_reducible apply Rd.dr | with_reducible apply Rd.dr1)) hb
      replace Sy : Rd u8 a1 cap1 (ys) := Rd.nx (by repeat (first | with_reducible exact Sy | with_reducible apply Rd.al | with_reducible apply Rd.dr | with_reducible apply Rd.dr1)) hb
      replace Sz : Rd u8 a2 cap2 (zs) := Rd.nx (by repeat (first | with_reducible exact Sz | with_reducible apply Rd.al | with_reducible apply Rd.dr | with_reducible apply Rd.dr1)) hb
      replace Sp : Rd u8 pp qp (jp) := Rd.nx (by repeat (first | with_reducible exact Sp | with_reducible apply Rd.al | with_reducible apply Rd.dr | with_reducible apply Rd.dr1)) hb
      replace K : Kp w u8 := Kp.nx (by repeat (first | with_reducible exact K | with_reducible apply Kp.al | with_reducible apply Kp.dr | with_reducible apply Kp.dr1)) hb
      have Sq : Rd u8 pq qq (jq) := ho.rd
      clear ho hb
      go_wp2_with fail
      refine (NR.cmp (xs := jp) (ys := jq) (by repeat (first | with_reducible exact Sp | with_reducible apply Rd.al | with_reducible apply Rd.dr | with_reducible apply Rd.dr1)) (by repeat (first | with_reducible exact Sq | with_reducible apply Rd.al | with_reducible apply Rd.dr | with_reducible apply Rd.dr1)) rfl rfl (Nat.le_trans (NR.len_of Hp.out (fx.mul fz)) (by decide)) (Nat.le_trans (NR.len_of Hq.out (fy.mul fz)) (by decide)) (1) (cmp_gt (by rw [Np.out, Nq.out]; exact mul_lt' H0.out Hc.out))).mono ?_; rintro e w' ⟨rfl, rfl⟩
      go_wp2_with fail
      refine (NR.zero (xs := zs) (by repeat (first | with_reducible exact Sz | with_reducible apply Rd.al | with_reducible apply Rd.dr | with_reducible apply Rd.dr1)) rfl (by omega) false (by have := Hc.out; symm; rw [beq_eq_false_iff_ne]; exact this)).mono ?_; rintro e w' ⟨rfl, rfl⟩
      go_wp2_with fail
      refine (NR.zero (xs := zs) (by repeat (first | with_reducible exact Sz | with_reducible apply Rd.al | with_reducible apply Rd.dr | with_reducible apply Rd.dr1)) rfl (by omega) false (by have := Hc.out; symm; rw [beq_eq_false_iff_ne]; exact this)).mono ?_; rintro e w' ⟨rfl, rfl⟩
      go_wp2_with fail
      go_ret
      exact ⟨rfl, Kp.below (by repeat (first | with_reducible exact K | with_reducible apply Kp.al | with_reducible apply Kp.dr | with_reducible apply Kp.dr1))⟩

/-! ### THE ROW's STEP: WRITTEN OUT: LEAVE IT -/
set_option maxRecDepth 100000 in
theorem lifted (os : Os) (started : os.Started) (H : Type) (enc : TypeId × Value → H) :
    ReturnsInHanded {} Try.checked os 6 .any (Rows.natOrderSpec.pre6 enc Try.prog Try.f6 Rows.natOrderRow.domain false) (Rows.natOrderSpec.post enc Try.prog Try.f6 false true false false) := by
  refine returnsInHanded_of_change (C := Try.checked) own started (by kernel_rfl) Try.func6
    (ChangeSpec.witness6 (enc := enc) (C := Try.checked) false ⟨#[], #[.slice none 0 0, .slice none 0 0, .slice none 0 0], []⟩ 8 (by kernel_rfl) (by kernel_rfl) (by kernel_rfl) (by kernel_rfl)) ?_
  intro W base args ds gs before hval0 hW hcnd _
  have hval : ∀ (j : Nat) t v, Try.f6.params[j]? = some t → args[j]? = some v → Value.okWide Try.prog W .any base t v := hval0
  have hW' := hW
  obtain ⟨p, q, hA0, hV, rfl, hfz, hnd⟩ := hW
  have hA : DataW.TrodAll enc Try.prog W 0 (fun _ => true) true Try.f6.params.toList args.toList ds p := hA0
  rw [Try.params6] at hA hval
  obtain ⟨v0, vs0, d0, ds0, p0, q0, hargs, rfl, rfl, h0, r0⟩ := trodAll_cons hA
  obtain ⟨v1, vs1, d1, ds1, p1, q1, rfl, rfl, rfl, h1, r1⟩ := trodAll_cons r0
  obtain ⟨v2, vs2, d2, ds2, p2, q2, rfl, rfl, rfl, h2, r2⟩ := trodAll_cons r1
  obtain ⟨rfl, rfl, rfl⟩ := trodAll_nil r2
  obtain rfl : args = #[v0, v1, v2] := by cases args; simp_all
  obtain ⟨rfl, rfl⟩ := trodVars_none hV
  obtain ⟨a0, len0, cap0, rfl⟩ := okWide_slice Try.underlying23 (hval 0 23 v0 rfl rfl)
  have k0 := h0
  have lt0 : ∀ x ∈ p0, x.block < W.heap.size := by obtain ⟨m, hm⟩ := k0; exact DataW.trod_lt m _ _ _ hm
  obtain ⟨z0, w0⟩ : ∃ zs, IsRow .u64 W a0 len0 cap0 zs := by
    obtain ⟨fuel, hf⟩ := h0
    rcases open_ints Try.underlying23 Try.underlying34 (by kernel_rfl) hf with ⟨hcs, _⟩ | ⟨x, l, c, zs, hcs, _, hl, hm, hz, _, hcell, hwz⟩
    · simp [Value.cells] at hcs
      obtain ⟨rfl, rfl, rfl⟩ := hcs
      exact ⟨[], .inl ⟨rfl, rfl, rfl, rfl⟩⟩
    · simp [Value.cells] at hcs
      obtain ⟨rfl, rfl, rfl⟩ := hcs
      exact ⟨zs, .inr ⟨_, rfl, hl, hm, by simpa using hz, hcell, hwz⟩⟩
  obtain ⟨a1, len1, cap1, rfl⟩ := okWide_slice Try.underlying23 (hval 1 23 v1 rfl rfl)
  have k1 := h1
  have lt1 : ∀ x ∈ p1, x.block < W.heap.size := by obtain ⟨m, hm⟩ := k1; exact DataW.trod_lt m _ _ _ hm
  obtain ⟨z1, w1⟩ : ∃ zs, IsRow .u64 W a1 len1 cap1 zs := by
    obtain ⟨fuel, hf⟩ := h1
    rcases open_ints Try.underlying23 Try.underlying34 (by kernel_rfl) hf with ⟨hcs, _⟩ | ⟨x, l, c, zs, hcs, _, hl, hm, hz, _, hcell, hwz⟩
    · simp [Value.cells] at hcs
      obtain ⟨rfl, rfl, rfl⟩ := hcs
      exact ⟨[], .inl ⟨rfl, rfl, rfl, rfl⟩⟩
    · simp [Value.cells] at hcs
      obtain ⟨rfl, rfl, rfl⟩ := hcs
      exact ⟨zs, .inr ⟨_, rfl, hl, hm, by simpa using hz, hcell, hwz⟩⟩
  obtain ⟨a2, len2, cap2, rfl⟩ := okWide_slice Try.underlying23 (hval 2 23 v2 rfl rfl)
  have k2 := h2
  have lt2 : ∀ x ∈ p2, x.block < W.heap.size := by obtain ⟨m, hm⟩ := k2; exact DataW.trod_lt m _ _ _ hm
  obtain ⟨z2, w2⟩ : ∃ zs, IsRow .u64 W a2 len2 cap2 zs := by
    obtain ⟨fuel, hf⟩ := h2
    rcases open_ints Try.underlying23 Try.underlying34 (by kernel_rfl) hf with ⟨hcs, _⟩ | ⟨x, l, c, zs, hcs, _, hl, hm, hz, _, hcell, hwz⟩
    · simp [Value.cells] at hcs
      obtain ⟨rfl, rfl, rfl⟩ := hcs
      exact ⟨[], .inl ⟨rfl, rfl, rfl, rfl⟩⟩
    · simp [Value.cells] at hcs
      obtain ⟨rfl, rfl, rfl⟩ := hcs
      exact ⟨zs, .inr ⟨_, rfl, hl, hm, by simpa using hz, hcell, hwz⟩⟩
  clear hA0 hval0
  refine (walk a0 len0 cap0 z0 a1 len1 cap1 z1 a2 len2 cap2 z2 W w0 w1 w2).mono fun e W' ⟨he, bel⟩ => ?_
  subst he
  exact ⟨_, rfl, _, _, _, [], _, [], hW', trodAll_mk1 (shut_bool Try.underlying4 _), (trodAll_cons_mk (Below.trod laidOut (by kernel_rfl) (of_decide_eq_true (by kernel_rfl)) k0 bel lt0) (trodAll_cons_mk (Below.trod laidOut (by kernel_rfl) (of_decide_eq_true (by kernel_rfl)) k1 bel lt1) (trodAll_cons_mk (Below.trod laidOut (by kernel_rfl) (of_decide_eq_true (by kernel_rfl)) k2 bel lt2) trodAll_mk0))), rfl, bel.frame _, fun h => by cases h⟩

theorem over : Rows.natOrderRow.holds Try.pinned (OpenSpec.ofChange Rows.natOrderSpec) :=
  OpenClaim.holds_of_wide 6 Try.f6 rfl rfl rfl rfl rfl rfl rfl ⟨rfl, rfl, rfl, rfl, rfl⟩ rfl rfl rfl rfl rfl (by kernel_rfl) Try.func6 (by kernel_rfl)
    (of_decide_eq_true (by kernel_rfl)) (by unfold Func.isWrapper; first | (rw [if_pos (by decide +kernel)]; kernel_rfl) | (rw [if_neg (by decide +kernel)]; exact ⟨rfl, rfl⟩))
    (fun os started H enc _ => lifted os started H enc)

/-- ████ THE STATEMENT ████ -/
theorem proved : Rows.NatOrderSaid := over
#print axioms proved
end Go.Proofs.Ytacjfbjhkogdaaa.natOrder
