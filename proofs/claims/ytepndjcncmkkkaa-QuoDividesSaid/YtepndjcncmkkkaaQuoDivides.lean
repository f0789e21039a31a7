/- The statement QuoDivides: the quotient of any two naturals, and what is left, or why there is none, are the document's; what is handed in stays, what is told may be written over. No condition. -/
import Derived.Test.YtepndjcncmkkkaaRows
import Derived.WalkKit
import Derived.ProofKit
import Derived.OpenShut
import Derived.Test.YtepndjcncmkkkaaQuoClone
import Derived.Test.YtepndjcncmkkkaaNatTail
import Derived.ShutString
import Derived.ChangeOld
import Derived.Below
namespace Go.Proofs.Ytepndjcncmkkkaa.quoDivides
open Go.ChangeShapes Go.WideShapes Go.ChangeAt Go.RowKit
open Go.Proofs
open Go.ChangeMaps (open_string shut_string)
set_option linter.unusedVariables false

theorem own : ownKnob Try.prog.godebug = none := by kernel_rfl
theorem laidOut : laidOutB Try.prog = true := by kernel_rfl

/-- WHAT THE WALK IS TOLD OF A SLICE OF INTEGERS THAT CAME IN: it is nil; or it leads to a row of 'cap' cells, the numbers 'zs' (the first 'len' are its elements, the rest its spare room), each fitting its kind. -/
def IsRow (k : IntKind) (w : World) (a : Option Addr) (len cap : Nat) (zs : List Int) : Prop :=
  (a = none ∧ len = 0 ∧ cap = 0 ∧ zs = []) ∨
  ∃ x, a = some x ∧ len ≤ cap ∧ cap ≤ maxLen ∧ zs.length = cap ∧ (∀ i, i < zs.length → w.cell? (x.add i) = some (.int k (zs.getD i 0))) ∧ ∀ n ∈ zs, (Lit.int k n).wf = true

open Go.Proofs.NP Go.Proofs.SL Go.Proofs.NR Go.Lib
set_option linter.unusedSimpArgs false
theorem drlen {x y i : Nat} (h : Fits x i) : (QR.drL x y).length ≤ i := by
  unfold QR.drL; split
  · simp
  · exact (h.mono (Nat.mod_le _ _)).len

/-! ### STEP 1: THE WALK: the Go text returns true, AND WRITES NOTHING THAT WAS THERE: 'Below w.heap.size w w'' (Derived/Below.lean: '.refl', '.alloc', '.drew', '.setCell' at a new block, '.trans'). Open each 'IsRow' by 'rcases' AHEAD of 'go_enter'; part every test ahead of the walk. -/
set_option maxHeartbeats 8000000 in
set_option maxRecDepth 100000 in
theorem walk (a0 : Option Addr) (len0 cap0 : Nat) (z0 : List Int) (a1 : Option Addr) (len1 cap1 : Nat) (z1 : List Int) (w : World) (w0 : IsRow .u64 w a0 len0 cap0 z0) (w1 : IsRow .u64 w a1 len1 cap1 z1) :
    Calls Try.prog 3 #[.slice a0 len0 cap0, .slice a1 len1 cap1] w fun e w' => e = .returned (.bool true) ∧ Below w.heap.size w w' := by
  obtain ⟨xs, rfl, Sx⟩ := QL.rows w0
  obtain ⟨ys, rfl, Sy⟩ := QL.rows w1
  have K : Kp w w := Kp.refl w
  have HC0 := Lib.hid (LN.rows_cap w0)
  have HC1 := Lib.hid (LN.rows_cap w1)
  clear w0 w1
  by_cases hs : ¬ (xs.length ≤ 12 ∧ ys.length ≤ 12)
  · have hz : true = (decide (12 < xs.length) || decide (12 < ys.length)) := by simp; omega
    clear hs
    have HZ := Lib.hid hz; clear hz
    go_enter Try.func3, Try.ntmps3
    go_wp2_with fail
    refine (QL.long2 (by simp) true HZ).mono ?_; rintro e w' ⟨rfl, rfl⟩
    go_wp2_with fail
    refine (QL.awake _).mono ?_; rintro e u1 ⟨rfl, hb⟩
    replace Sx : Rd u1 a0 cap0 (xs) := Rd.nx (by repeat (first | with_reducible exact Sx | with_reducible apply Rd.al | with_reducible apply Rd.dr | with_reducible apply Rd.dr1)) hb
    replace Sy : Rd u1 a1 cap1 (ys) := Rd.nx (by repeat (first | with_reducible exact Sy | with_reducible apply Rd.al | with_reducible apply Rd.dr | with_reducible apply Rd.dr1)) hb
    replace K : Kp w u1 := Kp.nx (by repeat (first | with_reducible exact K | with_reducible apply Kp.al | with_reducible apply Kp.dr | with_reducible apply Kp.dr1)) hb
    clear hb
    go_wp2_with fail
    go_ret
    exact ⟨rfl, Kp.below (by repeat (first | with_reducible exact K | with_reducible apply Kp.al | with_reducible apply Kp.dr | with_reducible apply Kp.dr1))⟩
  obtain ⟨n0, n1⟩ : xs.length ≤ 12 ∧ ys.length ≤ 12 := by omega
  clear hs
  have fx : Fits (V xs) 12 := Fits.of Sx.ws (by omega)
  have fy : Fits (V ys) 12 := Fits.of Sy.ws (by omega)
  have hz : false = (decide (12 < xs.length) || decide (12 < ys.length)) := by simp; omega
  have HZ := Lib.hid hz; clear hz
  obtain ⟨jq, hjq⟩ : ∃ z, z = L (V xs / V ys) := ⟨_, rfl⟩
  have lq : jq.length ≤ 12 := by rw [hjq]; exact (fx.div _).len
  have Hjq := Lib.hid hjq; clear hjq
  obtain ⟨jr, hjr⟩ : ∃ z, z = QR.drL (V xs) (V ys) := ⟨_, rfl⟩
  have lr : jr.length ≤ 12 := by rw [hjr]; exact drlen fx
  have Hjr := Lib.hid hjr; clear hjr
  obtain ⟨je, hje⟩ : ∃ z, z = QR.dE (V ys) := ⟨_, rfl⟩
  have Hje := Lib.hid hje; clear hje
  have lx9 : xs.length ≤ 9000 := by omega
  have ly9 : ys.length ≤ 9000 := by omega
  go_enter Try.func3, Try.ntmps3
  go_wp2_with fail
  refine (QL.long2 (by simp) false HZ).mono ?_; rintro e w' ⟨rfl, rfl⟩
  obtain ⟨gx1, qx1, u1, hr, ho, hb⟩ := QL.run_clone (w.alloc (.cells #[.slice a0 xs.length cap0, .slice a1 ys.length cap1] 23)) (w.heap.size + 1) a0 cap0 xs.length xs (by repeat (first | with_reducible exact Sx | with_reducible apply Rd.al | with_reducible apply Rd.dr | with_reducible apply Rd.dr1)) rfl (by omega) HC0.out (by simp)
  have HRx1 := Lib.hid hr; clear hr
  replace Sx : Rd u1 a0 cap0 (xs) := Rd.nx (by repeat (first | with_reducible exact Sx | with_reducible apply Rd.al | with_reducible apply Rd.dr | with_reducible apply Rd.dr1)) hb
  replace Sy : Rd u1 a1 cap1 (ys) := Rd.nx (by repeat (first | with_reducible exact Sy | with_reducible apply Rd.al | with_reducible apply Rd.dr | with_reducible apply Rd.dr1)) hb
  replace K : Kp w u1 := Kp.nx (by repeat (first | with_reducible exact K | with_reducible apply Kp.al | with_reducible apply Kp.dr | with_reducible apply Kp.dr1)) hb
  have Sx1 : Rd u1 (some ⟨gx1, 0, none⟩) qx1 (xs) := ho.rd
  clear ho hb
  obtain ⟨gy1, qy1, u2, hr, ho, hb⟩ := QL.run_clone u1 u1.heap.size a1 cap1 ys.length ys (by repeat (first | with_reducible exact Sy | with_reducible apply Rd.al | with_reducible apply Rd.dr | with_reducible apply Rd.dr1)) rfl (by omega) HC1.out (by simp)
  have HRy1 := Lib.hid hr; clear hr
  replace Sx : Rd u2 a0 cap0 (xs) := Rd.nx (by repeat (first | with_reducible exact Sx | with_reducible apply Rd.al | with_reducible apply Rd.dr | with_reducible apply Rd.dr1)) hb
  replace Sy : Rd u2 a1 cap1 (ys) := Rd.nx (by repeat (first | with_reducible exact Sy | with_reducible apply Rd.al | with_reducible apply Rd.dr | with_reducible apply Rd.dr1)) hb
  replace Sx1 : Rd u2 (some ⟨gx1, 0, none⟩) qx1 (xs) := Rd.nx (by repeat (first | with_reducible exact Sx1 | with_reducible apply Rd.al | with_reducible apply Rd.dr | with_reducible apply Rd.dr1)) hb
  replace K : Kp w u2 := Kp.nx (by repeat (first | with_reducible exact K | with_reducible apply Kp.al | with_reducible apply Kp.dr | with_reducible apply Kp.dr1)) hb
  have Sy1 : Rd u2 (some ⟨gy1, 0, none⟩) qy1 (ys) := ho.rd
  clear ho hb
  go_wp2_with (first | (at_builtin; refine Lib.wpList_append_run_sl _ rfl _ _ _ rfl (.slice (some ⟨(w.heap.size + 1), 0, none⟩) 0 0) (.slice a0 xs.length cap0) rfl rfl HRx1.out ?_) | (at_builtin; refine Lib.wpList_append_run_sl _ rfl _ _ _ rfl (.slice (some ⟨u1.heap.size, 0, none⟩) 0 0) (.slice a1 ys.length cap1) rfl rfl HRy1.out ?_))
  clear HRx1 HRy1
  go_wp2_with fail
  refine (QR.div2 (xs := xs) (ys := ys) (by repeat (first | with_reducible exact Sx | with_reducible apply Rd.al | with_reducible apply Rd.dr | with_reducible apply Rd.dr1)) (by repeat (first | with_reducible exact Sy | with_reducible apply Rd.al | with_reducible apply Rd.dr | with_reducible apply Rd.dr1)) rfl rfl (by omega) (by omega) jq jr je Hjq.out Hjr.out Hje.out).mono ?_; rintro e u3 ⟨pp, qp, ps, qs, rfl, ho, ho2, hb⟩
  replace Sx : Rd u3 a0 cap0 (xs) := Rd.nx (by repeat (first | with_reducible exact Sx | with_reducible apply Rd.al | with_reducible apply Rd.dr | with_reducible apply Rd.dr1)) hb
  replace Sy : Rd u3 a1 cap1 (ys) := Rd.nx (by repeat (first | with_reducible exact Sy | with_reducible apply Rd.al | with_reducible apply Rd.dr | with_reducible apply Rd.dr1)) hb
  replace Sx1 : Rd u3 (some ⟨gx1, 0, none⟩) qx1 (xs) := Rd.nx (by repeat (first | with_reducible exact Sx1 | with_reducible apply Rd.al | with_reducible apply Rd.dr | with_reducible apply Rd.dr1)) hb
  replace Sy1 : Rd u3 (some ⟨gy1, 0, none⟩) qy1 (ys) := Rd.nx (by repeat (first | with_reducible exact Sy1 | with_reducible apply Rd.al | with_reducible apply Rd.dr | with_reducible apply Rd.dr1)) hb
  replace K : Kp w u3 := Kp.nx (by repeat (first | with_reducible exact K | with_reducible apply Kp.al | with_reducible apply Kp.dr | with_reducible apply Kp.dr1)) hb
  have Sp : Rd u3 pp qp (jq) := ho
  have Ss : Rd u3 ps qs (jr) := ho2
  clear ho ho2 hb
  go_wp2_with fail
  go_loopw [10] (fun s wr => ∃ i : Nat, s = .int .i64 i ∧ i ≤ 2 ∧ Kp u3 wr) (fun s _ => 2 - (Go.RowKit.intOf s).toNat)
  case atStart => exact ⟨0, rfl, by omega, Kp.refl _⟩
  case round =>
    obtain ⟨i, rfl, hi, Kr⟩ := hrel
    replace Sx : Rd wr a0 cap0 (xs) := Rd.nx Sx Kr
    replace Sy : Rd wr a1 cap1 (ys) := Rd.nx Sy Kr
    replace Sx1 : Rd wr (some ⟨gx1, 0, none⟩) qx1 (xs) := Rd.nx Sx1 Kr
    replace Sy1 : Rd wr (some ⟨gy1, 0, none⟩) qy1 (ys) := Rd.nx Sy1 Kr
    replace Sp : Rd wr pp qp (jq) := Rd.nx Sp Kr
    replace Ss : Rd wr ps qs (jr) := Rd.nx Ss Kr
    have K0 := Lib.hid (Kp.nx K Kr)
    have KR := Lib.hid Kr; clear K Kr
    obtain ⟨wo, rfl⟩ : ∃ wo : World, wo = wr := ⟨_, rfl⟩
    by_cases hlt : i < 2
    · have K : Kp wo wo := Kp.refl _
      have Bx : Rd wo a0 cap0 (xs) := (by repeat (first | with_reducible exact Sx | with_reducible apply Rd.al | with_reducible apply Rd.dr | with_reducible apply Rd.dr1))
      have By : Rd wo a1 cap1 (ys) := (by repeat (first | with_reducible exact Sy | with_reducible apply Rd.al | with_reducible apply Rd.dr | with_reducible apply Rd.dr1))
      have Bx1 : Rd wo (some ⟨gx1, 0, none⟩) qx1 (xs) := (by repeat (first | with_reducible exact Sx1 | with_reducible apply Rd.al | with_reducible apply Rd.dr | with_reducible apply Rd.dr1))
      have By1 : Rd wo (some ⟨gy1, 0, none⟩) qy1 (ys) := (by repeat (first | with_reducible exact Sy1 | with_reducible apply Rd.al | with_reducible apply Rd.dr | with_reducible apply Rd.dr1))
      have Bp : Rd wo pp qp (jq) := (by repeat (first | with_reducible exact Sp | with_reducible apply Rd.al | with_reducible apply Rd.dr | with_reducible apply Rd.dr1))
      have Bs : Rd wo ps qs (jr) := (by repeat (first | with_reducible exact Ss | with_reducible apply Rd.al | with_reducible apply Rd.dr | with_reducible apply Rd.dr1))
      go_wp2_with fail
      refine (QR.div1 (xs := xs) (ys := ys) (by repeat (first | with_reducible exact Sx | with_reducible apply Rd.al | with_reducible apply Rd.dr | with_reducible apply Rd.dr1)) (by repeat (first | with_reducible exact Sy | with_reducible apply Rd.al | with_reducible apply Rd.dr | with_reducible apply Rd.dr1)) rfl rfl (by omega) (by omega) jq jr je Hjq.out Hjr.out Hje.out).mono ?_; rintro e u11 ⟨pq1, qq1, pr1, qr1, rfl, ho, ho2, ha, hb⟩
      have Gq1 : ∀ k, blk pq1 = some k → wo.heap.size ≤ k := QL.Own.from' ho (Below.size (show Kp wo _ from (by repeat (first | with_reducible exact K | with_reducible apply Kp.al | with_reducible apply Kp.dr | with_reducible apply Kp.dr1))))
      have Gr1 : ∀ k, blk pr1 = some k → wo.heap.size ≤ k := QL.Own.from' ho2 (Below.size (show Kp wo _ from (by repeat (first | with_reducible exact K | with_reducible apply Kp.al | with_reducible apply Kp.dr | with_reducible apply Kp.dr1))))
      have Ar1q1 := ha
      replace Sx : Rd u11 a0 cap0 (xs) := Rd.nx (by repeat (first | with_reducible exact Sx | with_reducible apply Rd.al | with_reducible apply Rd.dr | with_reducible apply Rd.dr1)) hb
      replace Sy : Rd u11 a1 cap1 (ys) := Rd.nx (by repeat (first | with_reducible exact Sy | with_reducible apply Rd.al | with_reducible apply Rd.dr | with_reducible apply Rd.dr1)) hb
      replace Sx1 : Rd u11 (some ⟨gx1, 0, none⟩) qx1 (xs) := Rd.nx (by repeat (first | with_reducible exact Sx1 | with_reducible apply Rd.al | with_reducible apply Rd.dr | with_reducible apply Rd.dr1)) hb
      replace Sy1 : Rd u11 (some ⟨gy1, 0, none⟩) qy1 (ys) := Rd.nx (by repeat (first | with_reducible exact Sy1 | with_reducible apply Rd.al | with_reducible apply Rd.dr | with_reducible apply Rd.dr1)) hb
      replace Sp : Rd u11 pp qp (jq) := Rd.nx (by repeat (first | with_reducible exact Sp | with_reducible apply Rd.al | with_reducible apply Rd.dr | with_reducible apply Rd.dr1)) hb
      replace Ss : Rd u11 ps qs (jr) := Rd.nx (by repeat (first | with_reducible exact Ss | with_reducible apply Rd.al | with_reducible apply Rd.dr | with_reducible apply Rd.dr1)) hb
      replace K : Kp wo u11 := Kp.nx (by repeat (first | with_reducible exact K | with_reducible apply Kp.al | with_reducible apply Kp.dr | with_reducible apply Kp.dr1)) hb
      have Oq1 : Own 36 _ u11 pq1 qq1 jq := ho
      have Sq1 : Rd u11 pq1 qq1 (jq) := ho.rd
      have Or1 : Own 36 _ u11 pr1 qr1 jr := ho2
      have Sr1 : Rd u11 pr1 qr1 (jr) := ho2.rd
      clear ho ho2 ha hb
      go_wp2_with fail
      refine (QL.same_yes (xs := jq) (ys := jq) (by repeat (first | with_reducible exact Sq1 | with_reducible apply Rd.al | with_reducible apply Rd.dr | with_reducible apply Rd.dr1)) (by repeat (first | with_reducible exact Sp | with_reducible apply Rd.al | with_reducible apply Rd.dr | with_reducible apply Rd.dr1)) rfl rfl (by omega) rfl).mono ?_; rintro e u12 ⟨rfl, hb⟩
      replace Sx : Rd u12 a0 cap0 (xs) := Rd.nx (by repeat (first | with_reducible exact Sx | with_reducible apply Rd.al | with_reducible apply Rd.dr | with_reducible apply Rd.dr1)) hb
      replace Sy : Rd u12 a1 cap1 (ys) := Rd.nx (by repeat (first | with_reducible exact Sy | with_reducible apply Rd.al | with_reducible apply Rd.dr | with_reducible apply Rd.dr1)) hb
      replace Sx1 : Rd u12 (some ⟨gx1, 0, none⟩) qx1 (xs) := Rd.nx (by repeat (first | with_reducible exact Sx1 | with_reducible apply Rd.al | with_reducible apply Rd.dr | with_reducible apply Rd.dr1)) hb
      replace Sy1 : Rd u12 (some ⟨gy1, 0, none⟩) qy1 (ys) := Rd.nx (by repeat (first | with_reducible exact Sy1 | with_reducible apply Rd.al | with_reducible apply Rd.dr | with_reducible apply Rd.dr1)) hb
      replace Sp : Rd u12 pp qp (jq) := Rd.nx (by repeat (first | with_reducible exact Sp | with_reducible apply Rd.al | with_reducible apply Rd.dr | with_reducible apply Rd.dr1)) hb
      replace Ss : Rd u12 ps qs (jr) := Rd.nx (by repeat (first | with_reducible exact Ss | with_reducible apply Rd.al | with_reducible apply Rd.dr | with_reducible apply Rd.dr1)) hb
      replace Sq1 : Rd u12 pq1 qq1 (jq) := Rd.nx (by repeat (first | with_reducible exact Sq1 | with_reducible apply Rd.al | with_reducible apply Rd.dr | with_reducible apply Rd.dr1)) hb
      replace Sr1 : Rd u12 pr1 qr1 (jr) := Rd.nx (by repeat (first | with_reducible exact Sr1 | with_reducible apply Rd.al | with_reducible apply Rd.dr | with_reducible apply Rd.dr1)) hb
      replace K : Kp wo u12 := Kp.nx (by repeat (first | with_reducible exact K | with_reducible apply Kp.al | with_reducible apply Kp.dr | with_reducible apply Kp.dr1)) hb
      replace Oq1 : Own 36 _ u12 pq1 qq1 jq := Own.nx (by repeat (first | with_reducible exact Oq1 | with_reducible apply Own.al | with_reducible apply Own.dr)) hb
      replace Or1 : Own 36 _ u12 pr1 qr1 jr := Own.nx (by repeat (first | with_reducible exact Or1 | with_reducible apply Own.al | with_reducible apply Own.dr)) hb
      clear hb
      go_wp2_with fail
      refine (QL.same_yes (xs := jr) (ys := jr) (by repeat (first | with_reducible exact Sr1 | with_reducible apply Rd.al | with_reducible apply Rd.dr | with_reducible apply Rd.dr1)) (by repeat (first | with_reducible exact Ss | with_reducible apply Rd.al | with_reducible apply Rd.dr | with_reducible apply Rd.dr1)) rfl rfl (by omega) rfl).mono ?_; rintro e u13 ⟨rfl, hb⟩
      replace Sx : Rd u13 a0 cap0 (xs) := Rd.nx (by repeat (first | with_reducible exact Sx | with_reducible apply Rd.al | with_reducible apply Rd.dr | with_reducible apply Rd.dr1)) hb
      replace Sy : Rd u13 a1 cap1 (ys) := Rd.nx (by repeat (first | with_reducible exact Sy | with_reducible apply Rd.al | with_reducible apply Rd.dr | with_reducible apply Rd.dr1)) hb
      replace Sx1 : Rd u13 (some ⟨gx1, 0, none⟩) qx1 (xs) := Rd.nx (by repeat (first | with_reducible exact Sx1 | with_reducible apply Rd.al | with_reducible apply Rd.dr | with_reducible apply Rd.dr1)) hb
      replace Sy1 : Rd u13 (some ⟨gy1, 0, none⟩) qy1 (ys) := Rd.nx (by repeat (first | with_reducible exact Sy1 | with_reducible apply Rd.al | with_reducible apply Rd.dr | with_reducible apply Rd.dr1)) hb
      replace Sp : Rd u13 pp qp (jq) := Rd.nx (by repeat (first | with_reducible exact Sp | with_reducible apply Rd.al | with_reducible apply Rd.dr | with_reducible apply Rd.dr1)) hb
      replace Ss : Rd u13 ps qs (jr) := Rd.nx (by repeat (first | with_reducible exact Ss | with_reducible apply Rd.al | with_reducible apply Rd.dr | with_reducible apply Rd.dr1)) hb
      replace Sq1 : Rd u13 pq1 qq1 (jq) := Rd.nx (by repeat (first | with_reducible exact Sq1 | with_reducible apply Rd.al | with_reducible apply Rd.dr | with_reducible apply Rd.dr1)) hb
      replace Sr1 : Rd u13 pr1 qr1 (jr) := Rd.nx (by repeat (first | with_reducible exact Sr1 | with_reducible apply Rd.al | with_reducible apply Rd.dr | with_reducible apply Rd.dr1)) hb
      replace K : Kp wo u13 := Kp.nx (by repeat (first | with_reducible exact K | with_reducible apply Kp.al | with_reducible apply Kp.dr | with_reducible apply Kp.dr1)) hb
      replace Oq1 : Own 36 _ u13 pq1 qq1 jq := Own.nx (by repeat (first | with_reducible exact Oq1 | with_reducible apply Own.al | with_reducible apply Own.dr)) hb
      replace Or1 : Own 36 _ u13 pr1 qr1 jr := Own.nx (by repeat (first | with_reducible exact Or1 | with_reducible apply Own.al | with_reducible apply Own.dr)) hb
      clear hb
      go_wp2_with fail
      refine (QL.same_yes (xs := xs) (ys := xs) (by repeat (first | with_reducible exact Sx | with_reducible apply Rd.al | with_reducible apply Rd.dr | with_reducible apply Rd.dr1)) (by repeat (first | with_reducible exact Sx1 | with_reducible apply Rd.al | with_reducible apply Rd.dr | with_reducible apply Rd.dr1)) rfl rfl (by omega) rfl).mono ?_; rintro e u14 ⟨rfl, hb⟩
      replace Sx : Rd u14 a0 cap0 (xs) := Rd.nx (by repeat (first | with_reducible exact Sx | with_reducible apply Rd.al | with_reducible apply Rd.dr | with_reducible apply Rd.dr1)) hb
      replace Sy : Rd u14 a1 cap1 (ys) := Rd.nx (by repeat (first | with_reducible exact Sy | with_reducible apply Rd.al | with_reducible apply Rd.dr | with_reducible apply Rd.dr1)) hb
      replace Sx1 : Rd u14 (some ⟨gx1, 0, none⟩) qx1 (xs) := Rd.nx (by repeat (first | with_reducible exact Sx1 | with_reducible apply Rd.al | with_reducible apply Rd.dr | with_reducible apply Rd.dr1)) hb
      replace Sy1 : Rd u14 (some ⟨gy1, 0, none⟩) qy1 (ys) := Rd.nx (by repeat (first | with_reducible exact Sy1 | with_reducible apply Rd.al | with_reducible apply Rd.dr | with_reducible apply Rd.dr1)) hb
      replace Sp : Rd u14 pp qp (jq) := Rd.nx (by repeat (first | with_reducible exact Sp | with_reducible apply Rd.al | with_reducible apply Rd.dr | with_reducible apply Rd.dr1)) hb
      replace Ss : Rd u14 ps qs (jr) := Rd.nx (by repeat (first | with_reducible exact Ss | with_reducible apply Rd.al | with_reducible apply Rd.dr | with_reducible apply Rd.dr1)) hb
      replace Sq1 : Rd u14 pq1 qq1 (jq) := Rd.nx (by repeat (first | with_reducible exact Sq1 | with_reducible apply Rd.al | with_reducible apply Rd.dr | with_reducible apply Rd.dr1)) hb
      replace Sr1 : Rd u14 pr1 qr1 (jr) := Rd.nx (by repeat (first | with_reducible exact Sr1 | with_reducible apply Rd.al | with_reducible apply Rd.dr | with_reducible apply Rd.dr1)) hb
      replace K : Kp wo u14 := Kp.nx (by repeat (first | with_reducible exact K | with_reducible apply Kp.al | with_reducible apply Kp.dr | with_reducible apply Kp.dr1)) hb
      replace Oq1 : Own 36 _ u14 pq1 qq1 jq := Own.nx (by repeat (first | with_reducible exact Oq1 | with_reducible apply Own.al | with_reducible apply Own.dr)) hb
      replace Or1 : Own 36 _ u14 pr1 qr1 jr := Own.nx (by repeat (first | with_reducible exact Or1 | with_reducible apply Own.al | with_reducible apply Own.dr)) hb
      clear hb
      go_wp2_with fail
      refine (QL.same_yes (xs := ys) (ys := ys) (by repeat (first | with_reducible exact Sy | with_reducible apply Rd.al | with_reducible apply Rd.dr | with_reducible apply Rd.dr1)) (by repeat (first | with_reducible exact Sy1 | with_reducible apply Rd.al | with_reducible apply Rd.dr | with_reducible apply Rd.dr1)) rfl rfl (by omega) rfl).mono ?_; rintro e u15 ⟨rfl, hb⟩
      replace Sx : Rd u15 a0 cap0 (xs) := Rd.nx (by repeat (first | with_reducible exact Sx | with_reducible apply Rd.al | with_reducible apply Rd.dr | with_reducible apply Rd.dr1)) hb
      replace Sy : Rd u15 a1 cap1 (ys) := Rd.nx (by repeat (first | with_reducible exact Sy | with_reducible apply Rd.al | with_reducible apply Rd.dr | with_reducible apply Rd.dr1)) hb
      replace Sx1 : Rd u15 (some ⟨gx1, 0, none⟩) qx1 (xs) := Rd.nx (by repeat (first | with_reducible exact Sx1 | with_reducible apply Rd.al | with_reducible apply Rd.dr | with_reducible apply Rd.dr1)) hb
      replace Sy1 : Rd u15 (some ⟨gy1, 0, none⟩) qy1 (ys) := Rd.nx (by repeat (first | with_reducible exact Sy1 | with_reducible apply Rd.al | with_reducible apply Rd.dr | with_reducible apply Rd.dr1)) hb
      replace Sp : Rd u15 pp qp (jq) := Rd.nx (by repeat (first | with_reducible exact Sp | with_reducible apply Rd.al | with_reducible apply Rd.dr | with_reducible apply Rd.dr1)) hb
      replace Ss : Rd u15 ps qs (jr) := Rd.nx (by repeat (first | with_reducible exact Ss | with_reducible apply Rd.al | with_reducible apply Rd.dr | with_reducible apply Rd.dr1)) hb
      replace Sq1 : Rd u15 pq1 qq1 (jq) := Rd.nx (by repeat (first | with_reducible exact Sq1 | with_reducible apply Rd.al | with_reducible apply Rd.dr | with_reducible apply Rd.dr1)) hb
      replace Sr1 : Rd u15 pr1 qr1 (jr) := Rd.nx (by repeat (first | with_reducible exact Sr1 | with_reducible apply Rd.al | with_reducible apply Rd.dr | with_reducible apply Rd.dr1)) hb
      replace K : Kp wo u15 := Kp.nx (by repeat (first | with_reducible exact K | with_reducible apply Kp.al | with_reducible apply Kp.dr | with_reducible apply Kp.dr1)) hb
      replace Oq1 : Own 36 _ u15 pq1 qq1 jq := Own.nx (by repeat (first | with_reducible exact Oq1 | with_reducible apply Own.al | with_reducible apply Own.dr)) hb
      replace Or1 : Own 36 _ u15 pr1 qr1 jr := Own.nx (by repeat (first | with_reducible exact Or1 | with_reducible apply Own.al | with_reducible apply Own.dr)) hb
      clear hb
      go_wp2_with fail
      refine (QL.spoil (xs := jq) Oq1 rfl).mono ?_; rintro e u16 ⟨rfl, hg⟩
      replace K : Kp wo u16 := Kp.grown K hg Gq1
      replace Sx : Rd u16 a0 cap0 (xs) := Rd.nx Bx K
      replace Sy : Rd u16 a1 cap1 (ys) := Rd.nx By K
      replace Sx1 : Rd u16 (some ⟨gx1, 0, none⟩) qx1 (xs) := Rd.nx Bx1 K
      replace Sy1 : Rd u16 (some ⟨gy1, 0, none⟩) qy1 (ys) := Rd.nx By1 K
      replace Sp : Rd u16 pp qp (jq) := Rd.nx Bp K
      replace Ss : Rd u16 ps qs (jr) := Rd.nx Bs K
      clear Sq1
      replace Or1 : Own 36 _ u16 pr1 qr1 jr := Own.kept Or1 hg Ar1q1
      replace Sr1 : Rd u16 pr1 qr1 (jr) := Or1.rd
      clear hg Oq1 Gq1
      go_wp2_with fail
      refine (QL.spoil (xs := jr) Or1 rfl).mono ?_; rintro e u17 ⟨rfl, hg⟩
      replace K : Kp wo u17 := Kp.grown K hg Gr1
      replace Sx : Rd u17 a0 cap0 (xs) := Rd.nx Bx K
      replace Sy : Rd u17 a1 cap1 (ys) := Rd.nx By K
      replace Sx1 : Rd u17 (some ⟨gx1, 0, none⟩) qx1 (xs) := Rd.nx Bx1 K
      replace Sy1 : Rd u17 (some ⟨gy1, 0, none⟩) qy1 (ys) := Rd.nx By1 K
      replace Sp : Rd u17 pp qp (jq) := Rd.nx Bp K
      replace Ss : Rd u17 ps qs (jr) := Rd.nx Bs K
      clear Sr1
      clear hg Or1 Gr1
      go_wp2_with fail
      go_roundw
      case rel => exact ⟨i + 1, by go_num, by omega, Kp.nx KR.out (by repeat (first | with_reducible exact K | with_reducible apply Kp.al | with_reducible apply Kp.dr | with_reducible apply Kp.dr1))⟩
      case measure => simp [Go.RowKit.intOf]; omega
    · have K := K0.out
      go_wp2_with fail
      refine (QL.awake _).mono ?_; rintro e u31 ⟨rfl, hb⟩
      replace K : Kp w u31 := Kp.nx (by repeat (first | with_reducible exact K | with_reducible apply Kp.al | with_reducible apply Kp.dr | with_reducible apply Kp.dr1)) hb
      clear hb
      go_wp2_with fail
      go_ret
      exact ⟨rfl, Kp.below (by repeat (first | with_reducible exact K | with_reducible apply Kp.al | with_reducible apply Kp.dr | with_reducible apply Kp.dr1))⟩

/-! ### THE ROW's STEP: WRITTEN OUT: LEAVE IT -/
set_option maxRecDepth 100000 in
theorem lifted (os : Os) (started : os.Started) (H : Type) (enc : TypeId × Value → H) :
    ReturnsInHanded {} Try.checked os 3 .any (Rows.quoDividesSpec.pre6 enc Try.prog Try.f3 Rows.quoDividesRow.domain false) (Rows.quoDividesSpec.post enc Try.prog Try.f3 false true false false) := by
  refine returnsInHanded_of_change (C := Try.checked) own started (by kernel_rfl) Try.func3
    (ChangeSpec.witness6 (enc := enc) (C := Try.checked) false ⟨#[], #[.slice none 0 0, .slice none 0 0], []⟩ 8 (by kernel_rfl) (by kernel_rfl) (by kernel_rfl) (by kernel_rfl)) ?_
  intro W base args ds gs before hval0 hW hcnd _
  have hval : ∀ (j : Nat) t v, Try.f3.params[j]? = some t → args[j]? = some v → Value.okWide Try.prog W .any base t v := hval0
  have hW' := hW
  obtain ⟨p, q, hA0, hV, rfl, hfz, hnd⟩ := hW
  have hA : DataW.TrodAll enc Try.prog W 0 (fun _ => true) true Try.f3.params.toList args.toList ds p := hA0
  rw [Try.params3] at hA hval
  obtain ⟨v0, vs0, d0, ds0, p0, q0, hargs, rfl, rfl, h0, r0⟩ := trodAll_cons hA
  obtain ⟨v1, vs1, d1, ds1, p1, q1, rfl, rfl, rfl, h1, r1⟩ := trodAll_cons r0
  obtain ⟨rfl, rfl, rfl⟩ := trodAll_nil r1
  obtain rfl : args = #[v0, v1] := by cases args; simp_all
  obtain ⟨rfl, rfl⟩ := trodVars_none hV
  obtain ⟨a0, len0, cap0, rfl⟩ := okWide_slice Try.underlying23 (hval 0 23 v0 rfl rfl)
  have k0 := h0
  have lt0 : ∀ x ∈ p0, x.block < W.heap.size := by obtain ⟨m, hm⟩ := k0; exact DataW.trod_lt m _ _ _ hm
  obtain ⟨z0, w0⟩ : ∃ zs, IsRow .u64 W a0 len0 cap0 zs := by
    obtain ⟨fuel, hf⟩ := h0
    rcases open_ints Try.underlying23 Try.underlying36 (by kernel_rfl) hf with ⟨hcs, _⟩ | ⟨x, l, c, zs, hcs, _, hl, hm, hz, _, hcell, hwz⟩
    · simp [Value.cells] at hcs
      obtain ⟨rfl, rfl, rfl⟩ := hcs
      exact ⟨[], .inl ⟨rfl, rfl, rfl, rfl⟩⟩
    · simp [Value.cells] at hcs
      obtain ⟨rfl, rfl, rfl⟩ := hcs
      exact ⟨zs, .inr ⟨_, rfl, hl, hm, by simpa using hz, hcell, hwz⟩⟩
  obtain ⟨a1, len1, cap1, rfl⟩ := okWide_slice Try.underlying23 (hval 1 23 v1 rfl rfl)
  have k1 := h1
  have lt1 : ∀ x ∈ p1, x.block < W.heap.size := by obtain ⟨m, hm⟩ := k1; exact DataW.trod_lt m _ _ _ hm
  obtain ⟨z1, w1⟩ : ∃ zs, IsRow .u64 W a1 len1 cap1 zs := by
    obtain ⟨fuel, hf⟩ := h1
    rcases open_ints Try.underlying23 Try.underlying36 (by kernel_rfl) hf with ⟨hcs, _⟩ | ⟨x, l, c, zs, hcs, _, hl, hm, hz, _, hcell, hwz⟩
    · simp [Value.cells] at hcs
      obtain ⟨rfl, rfl, rfl⟩ := hcs
      exact ⟨[], .inl ⟨rfl, rfl, rfl, rfl⟩⟩
    · simp [Value.cells] at hcs
      obtain ⟨rfl, rfl, rfl⟩ := hcs
      exact ⟨zs, .inr ⟨_, rfl, hl, hm, by simpa using hz, hcell, hwz⟩⟩
  clear hA0 hval0
  refine (walk a0 len0 cap0 z0 a1 len1 cap1 z1 W w0 w1).mono fun e W' ⟨he, bel⟩ => ?_
  subst he
  exact ⟨_, rfl, _, _, _, [], _, [], hW', trodAll_mk1 (shut_bool Try.underlying4 _), (trodAll_cons_mk (Below.trod laidOut (by kernel_rfl) (of_decide_eq_true (by kernel_rfl)) k0 bel lt0) (trodAll_cons_mk (Below.trod laidOut (by kernel_rfl) (of_decide_eq_true (by kernel_rfl)) k1 bel lt1) trodAll_mk0)), rfl, bel.frame _, fun h => by cases h⟩

theorem over : Rows.quoDividesRow.holds Try.pinned (OpenSpec.ofChange Rows.quoDividesSpec) :=
  OpenClaim.holds_of_wide 3 Try.f3 rfl rfl rfl rfl rfl rfl rfl ⟨rfl, rfl, rfl, rfl, rfl⟩ rfl rfl rfl rfl rfl (by kernel_rfl) Try.func3 (by kernel_rfl)
    (of_decide_eq_true (by kernel_rfl)) (by unfold Func.isWrapper; first | (rw [if_pos (by decide +kernel)]; kernel_rfl) | (rw [if_neg (by decide +kernel)]; exact ⟨rfl, rfl⟩))
    (fun os started H enc _ => lifted os started H enc)

/-- ████ THE STATEMENT ████ -/
theorem proved : Rows.QuoDividesSaid := over
#print axioms proved
end Go.Proofs.Ytepndjcncmkkkaa.quoDivides
