/- The statement AliasMakes: the table of any weights, or why there is none, what it has at any place, what it picks, and its cost, are the document's; what was handed in may be written over. No condition. -/
import Derived.Test.YticickjnlkbkoaaRows
import Derived.WalkKit
import Derived.ProofKit
import Derived.OpenShut
import Derived.Test.YticickjnlkbkoaaAltD
import Derived.Test.YticickjnlkbkoaaAliD
import Derived.Test.YticickjnlkbkoaaAliW
import Derived.Test.YticickjnlkbkoaaAliG
import Derived.Test.YticickjnlkbkoaaAliI
import Derived.Test.YticickjnlkbkoaaAliJ
import Derived.ShutString
import Derived.ChangeOld
import Derived.Below
namespace Go.Proofs.Yticickjnlkbkoaa.aliasMakes
open Go.ChangeShapes Go.WideShapes Go.ChangeAt Go.RowKit
open Go.Proofs
open Go.ChangeMaps (open_string shut_string)
set_option linter.unusedVariables false

theorem own : ownKnob Try.prog.godebug = none := by kernel_rfl
theorem laidOut : laidOutB Try.prog = true := by kernel_rfl

/-- WHAT THE WALK IS TOLD OF A SLICE OF INTEGERS THAT CAME IN: it is nil; or it leads to a row of 'cap' cells, the numbers 'zs' (the first 'len' are its elements, the rest its spare room), each fitting its kind. -/
def IsRow (k : IntKind) (w : World) (a : Option Addr) (len cap : Nat) (zs : List Int) : Prop :=
  (a = none ∧ len = 0 ∧ cap = 0 ∧ zs = []) ∨
  ∃ x, a = some x ∧ len ≤ cap ∧ cap ≤ maxLen ∧ zs.length = cap ∧ (∀ i, i < zs.length → w.cell? (x.add i) = some (.int k (zs.getD i 0))) ∧ ∀ n ∈ zs, (Lit.int k n).wf = true

open Go.Proofs.AL Go.Proofs.SL Go.Proofs.RA Go.Proofs.BL Go.Proofs.NP
set_option linter.unusedSimpArgs false

/-! ### STEP 1: THE WALK: the Go text returns true, AND WRITES NOTHING THAT WAS THERE: 'Below w.heap.size w w'' (Derived/Below.lean: '.refl', '.alloc', '.drew', '.setCell' at a new block, '.trans'). Open each 'IsRow' by 'rcases' AHEAD of 'go_enter'; part every test ahead of the walk. -/
set_option maxHeartbeats 8000000 in
set_option maxRecDepth 100000 in
theorem walk (a0 : Option Addr) (len0 cap0 : Nat) (z0 : List Int) (a1 : Int) (a2 : Int) (w : World) (w0 : IsRow .i64 w a0 len0 cap0 z0) (w1 : (Lit.int .i64 a1).wf = true) (w2 : (Lit.int .i64 a2).wf = true) :
    Calls Try.prog 3 #[.slice a0 len0 cap0, .int .i64 a1, .int .i64 a2] w fun e w' => e = .returned (.bool true) ∧ Below w.heap.size w w' := by
  have HC0 := Lib.hid (show a0 = none → cap0 = 0 from fun e => by
    rcases w0 with ⟨_, _, h, _⟩ | ⟨x, h, _⟩
    · exact h
    · rw [e] at h; cases h)
  obtain ⟨ws, rfl, hlen, Sx⟩ := Ri.of_row w0
  clear w0
  by_cases hl : 100 < ws.length
  · have hl2 : (100 : Int) < (ws.length : Int) := by omega
    go_enter Try.func3, Try.ntmps3
    go_wp2_with fail
    refine (AL.awake _).mono ?_; rintro e w5 ⟨rfl, hb⟩
    have K := Lib.hid hb
    go_wp2_with fail
    go_ret
    exact ⟨rfl, K.out⟩
  have hl2 : ¬ ((100 : Int) < (ws.length : Int)) := by omega
  obtain ⟨z, hz⟩ : ∃ z, z = whyW ws := ⟨_, rfl⟩
  by_cases hzz : z = 0
  · subst hzz
    have hn := why_len hz
    have hsp := sum_pos hz
    obtain ⟨hall, -⟩ := why0 hz
    have hq0 : ∀ j, 0 ≤ (ws.length : Int) * wf ws j := fun j => Int.mul_nonneg (by omega) (wf_ok hall j).1
    have hq1 : ∀ j, (ws.length : Int) * wf ws j ≤ 134217728 := fun j => by
      have h2 : (ws.length : Int) * wf ws j ≤ 64 * 1048576 := Int.mul_le_mul (by omega) (wf_ok hall j).2 (wf_ok hall j).1 (by omega)
      omega
    obtain ⟨hP, -⟩ := table_pl (n := ws.length) (w := wf ws) hn.1 hq0 hq1
    have hsb := up_bd hall ws.length hn.2
    have HN1 := Lib.hid (fun (W : World) (a : Option Addr) (c : Nat) (h : Ri W a ws) => new1 ws a c W h hn hz)
    have HN2 := Lib.hid (fun (W : World) (h : Ri W a0 ws) => rnew ws a0 cap0 W h hn hz)
    obtain ⟨n, hnn⟩ : ∃ n, ws.length = n := ⟨_, rfl⟩
    have HP := Lib.hid hP.at'
    have HNN := Lib.hid hnn
    rw [hnn] at hn hsp hsb hl2 HN1 HN2 HP ⊢
    generalize htb : table n (wf ws) = tb at *
    obtain ⟨S, hS⟩ : ∃ S : Nat, up (wf ws) n = S := ⟨(up (wf ws) n).toNat, by omega⟩
    rw [hS] at hsp hsb HN1 HN2 HP
    have hS1 : 1 ≤ S ∧ S ≤ 67108864 := by omega
    have HCU := Lib.hid (show ∀ k, k < n → 0 ≤ tb.cu k ∧ tb.cu k ≤ (S : Int) from fun k hk => by
      rcases HP.out k hk with ⟨h1, -⟩ | ⟨-, -, h1, h2, -⟩ <;> omega)
    generalize tb.cu = cu at *
    generalize tb.ot = ot at *
    obtain ⟨ps, qs, lp, lq, co1, co2⟩ := both_cost hn hS1
    have CO1 := Lib.hid co1
    have CO2 := Lib.hid co2
    have BS := Lib.hid (fun (k : Nat) (hk : k < n) => both_share (ot := ot) hn hS1 HCU.out hk)
    have hntt : ((n : Int) == (n : Int)) = true := by simp
    have hStt : ((S : Int) == (S : Int)) = true := by simp
    clear hz hall hP hl hnn hlen htb hS hq0 hq1 HP HCU co1 co2
    go_enter Try.func3, Try.ntmps3
    obtain ⟨gi, ci, u1, hr, ho, hb⟩ := run_cloneI w w.heap.size a0 cap0 n ws Sx HNN.out (by omega) HC0.out rfl
    have HRI := Lib.hid hr
    have HO := Lib.hid ho
    have K := Lib.hid hb
    have HS := Lib.hid (Sx.nx hb)
    have hgi := ho.ge
    clear hr ho hb Sx HC0
    go_wp2_with (at_builtin; refine Lib.wpList_append_run_sl _ rfl _ _ _ rfl (.slice (some ⟨w.heap.size, 0, none⟩) 0 0) (.slice a0 n cap0) rfl rfl HRI.out ?_)
    clear HRI
    go_wp2_with fail
    refine (HN1.out _ _ _ HO.out.ri).mono ?_; rintro e w6 ⟨g, gc, go, rfl, hT, hap, hb⟩
    have T1 := Lib.hid hT
    replace HO := Lib.hid (HO.out.nx hb)
    replace K := Lib.hid (Kp.nx K.out hb)
    replace HS := Lib.hid (HS.out.nx hb)
    have h61 : u1.heap.size ≤ g ∧ u1.heap.size ≤ gc ∧ u1.heap.size ≤ go := ⟨hap.1, hap.2.1, hap.2.2.1⟩
    have h62 := hb.size
    clear HN1 hT hap hb
    go_wp2_with fail
    refine (HN2.out _ HS.out).mono ?_; rintro e w7 ⟨g', gc', cc, go', co, rfl, hT, hap, hb⟩
    have T2 := Lib.hid hT
    replace HO := Lib.hid (HO.out.nx hb)
    replace T1 := Lib.hid (T1.out.nx hb)
    replace K := Lib.hid (Kp.nx K.out hb)
    have HG := Lib.hid (show (g ≠ gi ∧ gc ≠ gi ∧ go ≠ gi) ∧ (g' ≠ gi ∧ gc' ≠ gi ∧ go' ≠ gi) by omega)
    clear HN2 HS hT hap hb h61 h62
    go_wp2_with fail
    go_loopw [12] (fun s12 wr => ∃ (k : Nat) (xs : List Int), s12 = .int .i64 (k : Int) ∧ k ≤ n ∧ xs.length = n ∧ Hid (Oi 2 w.heap.size wr (some ⟨gi, 0, none⟩) ci xs) ∧ Hid (Kp w wr) ∧ Hid (Tb wr g gc go n (S : Int) cu ot) ∧ Hid (Tr wr g' gc' cc go' co n (S : Int) cu ot)) (fun v _ => n - (intOf v).toNat)
    case atStart => exact ⟨0, ws, rfl, by omega, HNN.out, HO, K, T1, T2⟩
    case round =>
      clear HO K T1 T2
      obtain ⟨k, xs, rfl, hk, hxs, HO, K, T1, T2⟩ := hrel
      by_cases hlt : k < n
      · have hlt2 : (k : Int) < (n : Int) := by omega
        have ck := HO.out.cell k (by omega)
        have fk := HO.out.free k
        have HO2 := Lib.hid (HO.out.store k 1)
        have hk0 : (0 : Int) ≤ (k : Int) := by omega
        go_wp2_with fail
        go_roundw
        case rel => exact ⟨k + 1, xs.set k 1, by go_num, by omega, by rw [List.length_set]; exact hxs, Lib.hid HO2.out.1, Lib.hid (show Kp w _ from Kp.grown K.out HO2.out.2 (fun k e => by cases e; exact hgi.1)), Lib.hid (T1.out.kept HO2.out.2 HG.out.1.1 HG.out.1.2.1 HG.out.1.2.2), Lib.hid (T2.out.kept HO2.out.2 HG.out.2.1 HG.out.2.2.1 HG.out.2.2.2)⟩
        case measure => simp [intOf]; omega
      · have hlt2 : ¬ ((k : Int) < (n : Int)) := by omega
        clear HO HG hk hxs hlt
        have HV := Lib.hid (fun (W' : World) (hk : Kp wr W') => show (W'.cell? ⟨g', 0, none⟩ = some (.int .i64 (S : Int))) ∧ Tb W' g gc go n (S : Int) cu ot ∧ Tr W' g' gc' cc go' co n (S : Int) cu ot from ⟨(T2.out.nx hk).tb.c 0, T1.out.nx hk, T2.out.nx hk⟩)
        go_wp2_with fail
        clear hlt2
        go_region_held3 (fun W => W.cell? ⟨g', 0, none⟩ = some (.int .i64 (S : Int)))
          (first
            | exact (HV.out _ (Kp.refl _)).1
            | exact (HV.out _ (Kp.refl _).dr1).1
            | exact (HV.out _ ka).1
            | exact (HV.out _ kb).1
            | exact (HV.out _ kc).1)
          (first
            | (go_at_call 13; (with_reducible refine (len1 (HV.out _ (Kp.refl wr).dr1).2.1).mono ?_); rintro e wx ⟨rfl, rfl⟩)
            | (go_at_call 14; (with_reducible refine (sum1 (HV.out _ (Kp.refl wr).dr1).2.1).mono ?_); rintro e wx ⟨rfl, rfl⟩)
            | (go_at_call 16; (with_reducible refine (CO1.out _ _ _ _ _ _ (HV.out _ (Kp.refl wr).dr1).2.1).mono ?_); rintro e wa ⟨p1, e1, q1, d1, rfl, ha1, ha2, ha3⟩; have ka := Kp.nx (Kp.refl wr).dr1 ha3)
            | (go_at_call 17; (with_reducible refine (CO2.out _ _ _ _ _ _ _ _ (HV.out _ ka).2.2).mono ?_); rintro e wb ⟨p2, e2, q2, d2, rfl, hb1, hb2, hb3⟩; have kb := Kp.nx ka hb3; have kab : Kp wa wb := hb3)
            | (go_at_call 15; (with_reducible refine (is6 (ha1.rd.nx kab) hb1.rd (ha2.rd.nx kab) hb2.rd rfl rfl lp lq).mono ?_); rintro e wc ⟨rfl, hc3⟩; have kc := Kp.nx kb hc3))
        replace K := Lib.hid (Kp.nx K.out kc)
        replace T1 := Lib.hid (T1.out.nx kc)
        replace T2 := Lib.hid (T2.out.nx kc)
        clear HV CO1 CO2 ha1 ha2 ha3 ka hb1 hb2 hb3 kab kb hc3 kc
        go_wp2_with fail
        go_loopw [13] (fun s13 wq => ∃ k : Nat, s13 = .int .i64 (k : Int) ∧ k ≤ n ∧ Hid (Kp wc wq)) (fun v _ => n - (intOf v).toNat)
        case atStart => exact ⟨0, rfl, by omega, Lib.hid (Kp.refl _)⟩
        case round =>
          obtain ⟨j, rfl, hj, KJ⟩ := hrel
          by_cases hlt : j < n
          · have hlt2 : (j : Int) < (n : Int) := by omega
            have TJ := Lib.hid (T1.out.nx KJ.out)
            have RJ := Lib.hid (T2.out.nx KJ.out)
            obtain ⟨us, vs, lu, lv, s1, s2⟩ := BS.out j hlt
            have SH1 := Lib.hid s1
            have SH2 := Lib.hid s2
            have C1 := Lib.hid (cut1 j TJ.out (by omega) hlt (by omega))
            have O1 := Lib.hid (other1 j TJ.out (by omega) hlt (by omega))
            obtain ⟨x, hx⟩ : ∃ x, cu j = x := ⟨_, rfl⟩
            obtain ⟨o, hox⟩ : ∃ x, ot j = x := ⟨_, rfl⟩
            rw [hx] at C1
            rw [hox] at O1
            have HX := Lib.hid hx
            have HOX := Lib.hid hox
            have hxx : (x == x) = true := by simp
            have hoo : (o == o) = true := by simp
            have hj0 : (0 : Int) ≤ (j : Int) := by omega
            clear s1 s2 hx hox T1 T2 BS
            go_wp2_with fail
            refine (C1.out).mono ?_; rintro e w' ⟨rfl, rfl⟩
            go_wp2_with fail
            refine (O1.out).mono ?_; rintro e w' ⟨rfl, rfl⟩
            clear C1 O1
            go_wp2_with fail
            refine (SH1.out _ _ _ _ TJ.out).mono ?_; rintro e W1 ⟨p1, e1, q1, d1, rfl, ho1, ho2, hb⟩
            have X1 := Lib.hid (RatV.new ho1.rd ho2.rd)
            have KA := (Kp.nx hb ((Kp.refl _).al (.cells #[.bool false, .slice p1 us.length e1, .slice q1 vs.length d1] 42)))
            replace KJ := Lib.hid (Kp.nx KJ.out KA)
            replace RJ := Lib.hid (RJ.out.nx KA)
            obtain ⟨bx, hbx⟩ : ∃ b, W1.heap.size = b := ⟨_, rfl⟩
            rw [hbx] at X1
            try simp only [hbx]
            clear SH1 ho1 ho2 hb KA TJ
            go_wp2_with fail
            try simp only [hbx]
            generalize (W1.alloc (.cells #[.bool false, .slice p1 us.length e1, .slice q1 vs.length d1] 42)) = Y1 at *
            have HV := Lib.hid (fun (W' : World) (hk : Kp Y1 W') => show (W'.cell? ⟨g', 1, none⟩ = some (.slice (some ⟨gc', 0, none⟩) n cc) ∧ W'.cell? ⟨g', 2, none⟩ = some (.slice (some ⟨go', 0, none⟩) n co) ∧ W'.cell? ⟨gc', j, none⟩ = some (.int .i64 x) ∧ W'.cell? ⟨go', j, none⟩ = some (.int .i64 o) ∧ W'.cell? ⟨bx, 0, none⟩ = some (.bool false) ∧ W'.cell? ⟨bx, 1, none⟩ = some (.slice p1 us.length e1) ∧ W'.cell? ⟨bx, 2, none⟩ = some (.slice q1 vs.length d1)) ∧ RatV W' bx p1 q1 e1 d1 us vs ∧ Tr W' g' gc' cc go' co n (S : Int) cu ot from
              ⟨⟨(RJ.out.nx hk).tb.c 1, (RJ.out.nx hk).tb.c 2, by rw [← HX.out]; exact (RJ.out.nx hk).cs j hlt, by rw [← HOX.out]; exact (RJ.out.nx hk).os j hlt, (X1.out.nx hk).bk.c 0, (X1.out.nx hk).bk.c 1, (X1.out.nx hk).bk.c 2⟩, X1.out.nx hk, RJ.out.nx hk⟩)
            clear hbx X1 RJ
            go_region_held3 (fun W => W.cell? ⟨g', 1, none⟩ = some (.slice (some ⟨gc', 0, none⟩) n cc) ∧ W.cell? ⟨g', 2, none⟩ = some (.slice (some ⟨go', 0, none⟩) n co) ∧ W.cell? ⟨gc', j, none⟩ = some (.int .i64 x) ∧ W.cell? ⟨go', j, none⟩ = some (.int .i64 o) ∧ W.cell? ⟨bx, 0, none⟩ = some (.bool false) ∧ W.cell? ⟨bx, 1, none⟩ = some (.slice p1 us.length e1) ∧ W.cell? ⟨bx, 2, none⟩ = some (.slice q1 vs.length d1))
              (first
                | exact (HV.out _ (Kp.refl _)).1
                | exact (HV.out _ (Kp.refl _).dr1).1
                | exact (HV.out _ ka).1
                | exact (HV.out _ kb).1)
              (first
                | (go_at_call 21; (with_reducible refine (SH2.out _ _ _ _ _ _ (HV.out _ (Kp.refl Y1).dr1).2.2).mono ?_); rintro e wa ⟨p2, e2, q2, d2, rfl, ha1, ha2, ha3⟩; have ka := Kp.nx (Kp.refl Y1).dr1 ha3)
                | (go_at_call 15; (with_reducible refine (is6 (HV.out _ ka).2.1.ru ha1.rd (HV.out _ ka).2.1.rv ha2.rd rfl rfl (by omega) (by omega)).mono ?_); rintro e wb ⟨rfl, hb3⟩; have kb := Kp.nx ka hb3))
            replace KJ := Lib.hid (Kp.nx KJ.out kb)
            clear HV SH2 ha1 ha2 ha3 ka hb3 kb
            go_wp2_with fail
            go_roundw
            case rel => exact ⟨j + 1, by go_num, by omega, KJ⟩
            case measure => simp [intOf]; omega
          · have hlt2 : ¬ ((j : Int) < (n : Int)) := by omega
            have TJ := Lib.hid (T1.out.nx KJ.out)
            have RJ := Lib.hid (T2.out.nx KJ.out)
            have x0 := RJ.out.tb.c 0
            replace KJ := Lib.hid (Kp.nx K.out KJ.out)
            clear T1 T2 K hlt hj
            by_cases hin : 0 ≤ a1 ∧ a1 < (n : Int)
            · have hin1 : ¬ (a1 < 0) := by omega
              have hin2 : ¬ ((n : Int) ≤ a1) := by omega
              obtain ⟨i, rfl⟩ : ∃ i : Nat, a1 = i := ⟨a1.toNat, by omega⟩
              replace hin : i < n := by omega
              obtain ⟨us, vs, lu, lv, s1, -⟩ := BS.out i hin
              have SH1 := Lib.hid s1
              have C1 := Lib.hid (cut1 i TJ.out (by omega) hin (by omega))
              have O1 := Lib.hid (other1 i TJ.out (by omega) hin (by omega))
              generalize cu i = x at C1
              generalize ot i = o at O1
              clear s1
              by_cases hr : 0 ≤ a2 ∧ a2 < (S : Int)
              · obtain ⟨y, hy⟩ : ∃ y, y = if a2 < cu i then (i : Int) else ot i := ⟨_, rfl⟩
                have PK1 := Lib.hid (pick1 i a2 TJ.out (by omega) hin (by omega) hr.1 hr.2 y hy)
                have PK2 := Lib.hid (rpick i a2 RJ.out hin (by omega) y hy)
                have hyy : (y == y) = true := by simp
                obtain ⟨hr1, hr2⟩ := hr
                have hr3 : ¬ (a2 < 0) := by omega
                have hr4 : ¬ ((S : Int) ≤ a2) := by omega
                clear hy
                clear BS
                go_wp2_with fail
                refine (PK1.out).mono ?_; rintro e w' ⟨rfl, rfl⟩
                go_wp2_with fail
                refine (PK2.out).mono ?_; rintro e w' ⟨rfl, rfl⟩
                clear PK1 PK2
                go_wp2_with fail
                refine (C1.out).mono ?_; rintro e w' ⟨rfl, rfl⟩
                go_wp2_with fail
                refine (O1.out).mono ?_; rintro e w' ⟨rfl, rfl⟩
                go_wp2_with fail
                refine (SH1.out _ _ _ _ TJ.out).mono ?_; rintro e W1 ⟨p1, e1, q1, d1, rfl, ho1, ho2, hb⟩
                replace KJ := Lib.hid (Kp.nx KJ.out hb)
                clear ho1 ho2 hb SH1
                clear TJ RJ
                go_wp2_with fail
                refine (AL.awake _).mono ?_; rintro e w5 ⟨rfl, hb⟩
                replace KJ := Lib.hid (Kp.nx KJ.out hb)
                clear hb
                go_wp2_with fail
                go_ret
                exact ⟨rfl, KJ.out⟩
              · have PK1 := Lib.hid (pick_no (i : Int) a2 TJ.out (by omega) (by omega))
                clear BS
                by_cases hr0 : a2 < 0
                · clear hr
                  go_wp2_with fail
                  refine (PK1.out).mono ?_; rintro e w' ⟨rfl, rfl⟩
                  clear PK1
                  go_wp2_with fail
                  refine (C1.out).mono ?_; rintro e w' ⟨rfl, rfl⟩
                  go_wp2_with fail
                  refine (O1.out).mono ?_; rintro e w' ⟨rfl, rfl⟩
                  go_wp2_with fail
                  refine (SH1.out _ _ _ _ TJ.out).mono ?_; rintro e W1 ⟨p1, e1, q1, d1, rfl, ho1, ho2, hb⟩
                  replace KJ := Lib.hid (Kp.nx KJ.out hb)
                  clear ho1 ho2 hb SH1
                  clear TJ RJ
                  go_wp2_with fail
                  refine (AL.awake _).mono ?_; rintro e w5 ⟨rfl, hb⟩
                  replace KJ := Lib.hid (Kp.nx KJ.out hb)
                  clear hb
                  go_wp2_with fail
                  go_ret
                  exact ⟨rfl, KJ.out⟩
                · have hr1 : (S : Int) ≤ a2 := by omega
                  clear hr
                  go_wp2_with fail
                  refine (PK1.out).mono ?_; rintro e w' ⟨rfl, rfl⟩
                  clear PK1
                  go_wp2_with fail
                  refine (C1.out).mono ?_; rintro e w' ⟨rfl, rfl⟩
                  go_wp2_with fail
                  refine (O1.out).mono ?_; rintro e w' ⟨rfl, rfl⟩
                  go_wp2_with fail
                  refine (SH1.out _ _ _ _ TJ.out).mono ?_; rintro e W1 ⟨p1, e1, q1, d1, rfl, ho1, ho2, hb⟩
                  replace KJ := Lib.hid (Kp.nx KJ.out hb)
                  clear ho1 ho2 hb SH1
                  clear TJ RJ
                  go_wp2_with fail
                  refine (AL.awake _).mono ?_; rintro e w5 ⟨rfl, hb⟩
                  replace KJ := Lib.hid (Kp.nx KJ.out hb)
                  clear hb
                  go_wp2_with fail
                  go_ret
                  exact ⟨rfl, KJ.out⟩
            · have PK1 := Lib.hid (pick_no a1 a2 TJ.out (by omega) (by omega))
              clear BS
              by_cases hi0 : a1 < 0
              · go_wp2_with fail
                refine (PK1.out).mono ?_; rintro e w' ⟨rfl, rfl⟩
                clear PK1
                go_wp2_with fail
                refine (cut_no a1 TJ.out (by omega) hin).mono ?_; rintro e w' ⟨rfl, rfl⟩
                go_wp2_with fail
                refine (other_no a1 TJ.out (by omega) hin).mono ?_; rintro e w' ⟨rfl, rfl⟩
                go_wp2_with fail
                refine (share_no a1 TJ.out (by omega) hin).mono ?_; rintro e W1 ⟨rfl, hb⟩
                replace KJ := Lib.hid (Kp.nx KJ.out hb)
                clear hb
                clear TJ RJ
                go_wp2_with fail
                refine (AL.awake _).mono ?_; rintro e w5 ⟨rfl, hb⟩
                replace KJ := Lib.hid (Kp.nx KJ.out hb)
                clear hb
                go_wp2_with fail
                go_ret
                exact ⟨rfl, KJ.out⟩
              · have hi1 : (n : Int) ≤ a1 := by omega
                go_wp2_with fail
                refine (PK1.out).mono ?_; rintro e w' ⟨rfl, rfl⟩
                clear PK1
                go_wp2_with fail
                refine (cut_no a1 TJ.out (by omega) hin).mono ?_; rintro e w' ⟨rfl, rfl⟩
                go_wp2_with fail
                refine (other_no a1 TJ.out (by omega) hin).mono ?_; rintro e w' ⟨rfl, rfl⟩
                go_wp2_with fail
                refine (share_no a1 TJ.out (by omega) hin).mono ?_; rintro e W1 ⟨rfl, hb⟩
                replace KJ := Lib.hid (Kp.nx KJ.out hb)
                clear hb
                clear TJ RJ
                go_wp2_with fail
                refine (AL.awake _).mono ?_; rintro e w5 ⟨rfl, hb⟩
                replace KJ := Lib.hid (Kp.nx KJ.out hb)
                clear hb
                go_wp2_with fail
                go_ret
                exact ⟨rfl, KJ.out⟩
  · have HN1 := Lib.hid (fun (W : World) (a : Option Addr) (c : Nat) (h : Ri W a ws) => new_no ws a c W h hlen z hz hzz)
    have HN2 := Lib.hid (fun (W : World) (h : Ri W a0 ws) => rnew_no ws a0 cap0 W h hlen z hz hzz)
    have hzb : (z == 0) = false := by rw [beq_eq_false_iff_ne]; exact hzz
    have hzt : (z == z) = true := by simp
    have hzb2 : ¬ (z = 0) := hzz
    have hzb3 : (z != 0) = true := by simp [hzz]
    clear hz hzz
    go_enter Try.func3, Try.ntmps3
    obtain ⟨gi, ci, u1, hr, ho, hb⟩ := run_cloneI w w.heap.size a0 cap0 ws.length ws Sx rfl (by omega) HC0.out rfl
    have HRI := Lib.hid hr
    have HO := Lib.hid ho
    have K := Lib.hid hb
    have HS := Lib.hid (Sx.nx hb)
    have hgi := ho.ge
    clear hr ho hb Sx HC0
    go_wp2_with (at_builtin; refine Lib.wpList_append_run_sl _ rfl _ _ _ rfl (.slice (some ⟨w.heap.size, 0, none⟩) 0 0) (.slice a0 ws.length cap0) rfl rfl HRI.out ?_)
    clear HRI
    go_wp2_with fail
    refine (HN1.out _ _ _ HO.out.ri).mono ?_; rintro e w' ⟨rfl, rfl⟩
    go_wp2_with fail
    refine (HN2.out _ HS.out).mono ?_; rintro e w' ⟨rfl, rfl⟩
    clear HN1 HN2 HS
    go_wp2_with fail
    go_loopw [12] (fun s12 wr => ∃ (k : Nat) (xs : List Int), s12 = .int .i64 (k : Int) ∧ k ≤ ws.length ∧ xs.length = ws.length ∧ Hid (Oi 2 w.heap.size wr (some ⟨gi, 0, none⟩) ci xs) ∧ Hid (Kp w wr)) (fun v _ => ws.length - (intOf v).toNat)
    case atStart => exact ⟨0, ws, rfl, by omega, rfl, HO, K⟩
    case round =>
      clear HO K 
      obtain ⟨k, xs, rfl, hk, hxs, HO, K⟩ := hrel
      by_cases hlt : k < ws.length
      · have hlt2 : (k : Int) < (ws.length : Int) := by omega
        have ck := HO.out.cell k (by omega)
        have fk := HO.out.free k
        have HO2 := Lib.hid (HO.out.store k 1)
        have hk0 : (0 : Int) ≤ (k : Int) := by omega
        go_wp2_with fail
        go_roundw
        case rel => exact ⟨k + 1, xs.set k 1, by go_num, by omega, by rw [List.length_set]; exact hxs, Lib.hid HO2.out.1, Lib.hid (show Kp w _ from Kp.grown K.out HO2.out.2 (fun k e => by cases e; exact hgi.1))⟩
        case measure => simp [intOf]; omega
      · have hlt2 : ¬ ((k : Int) < (ws.length : Int)) := by omega
        clear HO
        go_wp2_with fail
        refine (AL.awake _).mono ?_; rintro e w5 ⟨rfl, hb⟩
        replace K := Lib.hid (Kp.nx K.out hb)
        clear hb
        go_wp2_with fail
        go_ret
        exact ⟨rfl, K.out⟩

/-! ### THE ROW's STEP: WRITTEN OUT: LEAVE IT -/
set_option maxRecDepth 100000 in
theorem lifted (os : Os) (started : os.Started) (H : Type) (enc : TypeId × Value → H) :
    ReturnsInHanded {} Try.checked os 3 .any (Rows.aliasMakesSpec.pre6 enc Try.prog Try.f3 Rows.aliasMakesRow.domain false) (Rows.aliasMakesSpec.post enc Try.prog Try.f3 false true false false) := by
  refine returnsInHanded_of_change (C := Try.checked) own started (by kernel_rfl) Try.func3
    (ChangeSpec.witness6 (enc := enc) (C := Try.checked) false ⟨#[], #[.slice none 0 0, .int .i64 0, .int .i64 0], []⟩ 8 (by kernel_rfl) (by kernel_rfl) (by kernel_rfl) (by kernel_rfl)) ?_
  intro W base args ds gs before hval0 hW hcnd _
  have hval : ∀ (j : Nat) t v, Try.f3.params[j]? = some t → args[j]? = some v → Value.okWide Try.prog W .any base t v := hval0
  have hW' := hW
  obtain ⟨p, q, hA0, hV, rfl, hfz, hnd⟩ := hW
  have hA : DataW.TrodAll enc Try.prog W 0 (fun _ => true) true Try.f3.params.toList args.toList ds p := hA0
  rw [Try.params3] at hA hval
  obtain ⟨v0, vs0, d0, ds0, p0, q0, hargs, rfl, rfl, h0, r0⟩ := trodAll_cons hA
  obtain ⟨v1, vs1, d1, ds1, p1, q1, rfl, rfl, rfl, h1, r1⟩ := trodAll_cons r0
  obtain ⟨v2, vs2, d2, ds2, p2, q2, rfl, rfl, rfl, h2, r2⟩ := trodAll_cons r1
  obtain ⟨rfl, rfl, rfl⟩ := trodAll_nil r2
  obtain rfl : args = #[v0, v1, v2] := by cases args; simp_all
  obtain ⟨rfl, rfl⟩ := trodVars_none hV
  obtain ⟨a0, len0, cap0, rfl⟩ := okWide_slice Try.underlying22 (hval 0 22 v0 rfl rfl)
  have k0 := h0
  have lt0 : ∀ x ∈ p0, x.block < W.heap.size := by obtain ⟨m, hm⟩ := k0; exact DataW.trod_lt m _ _ _ hm
  obtain ⟨z0, w0⟩ : ∃ zs, IsRow .i64 W a0 len0 cap0 zs := by
    obtain ⟨fuel, hf⟩ := h0
    rcases open_ints Try.underlying22 Try.underlying2 (by kernel_rfl) hf with ⟨hcs, _⟩ | ⟨x, l, c, zs, hcs, _, hl, hm, hz, _, hcell, hwz⟩
    · simp [Value.cells] at hcs
      obtain ⟨rfl, rfl, rfl⟩ := hcs
      exact ⟨[], .inl ⟨rfl, rfl, rfl, rfl⟩⟩
    · simp [Value.cells] at hcs
      obtain ⟨rfl, rfl, rfl⟩ := hcs
      exact ⟨zs, .inr ⟨_, rfl, hl, hm, by simpa using hz, hcell, hwz⟩⟩
  obtain ⟨a1, rfl, rfl, rfl, w1⟩ := open_int Try.underlying3 (hval 1 3 v1 rfl rfl) h1
  obtain ⟨a2, rfl, rfl, rfl, w2⟩ := open_int Try.underlying2 (hval 2 2 v2 rfl rfl) h2
  clear hA0 hval0
  refine (walk a0 len0 cap0 z0 a1 a2 W w0 w1 w2).mono fun e W' ⟨he, bel⟩ => ?_
  subst he
  exact ⟨_, rfl, _, _, _, [], _, [], hW', trodAll_mk1 (shut_bool Try.underlying4 _), (trodAll_cons_mk (Below.trod laidOut (by kernel_rfl) (of_decide_eq_true (by kernel_rfl)) k0 bel lt0) (trodAll_cons_mk (shut_int Try.underlying3 w1) (trodAll_cons_mk (shut_int Try.underlying2 w2) trodAll_mk0))), rfl, bel.frame _, fun h => by cases h⟩

theorem over : Rows.aliasMakesRow.holds Try.pinned (OpenSpec.ofChange Rows.aliasMakesSpec) :=
  OpenClaim.holds_of_wide 3 Try.f3 rfl rfl rfl rfl rfl rfl rfl ⟨rfl, rfl, rfl, rfl, rfl⟩ rfl rfl rfl rfl rfl (by kernel_rfl) Try.func3 (by kernel_rfl)
    (of_decide_eq_true (by kernel_rfl)) (by unfold Func.isWrapper; first | (rw [if_pos (by decide +kernel)]; kernel_rfl) | (rw [if_neg (by decide +kernel)]; exact ⟨rfl, rfl⟩))
    (fun os started H enc _ => lifted os started H enc)

/-- ████ THE STATEMENT ████ -/
theorem proved : Rows.AliasMakesSaid := over
#print axioms proved
end Go.Proofs.Yticickjnlkbkoaa.aliasMakes
