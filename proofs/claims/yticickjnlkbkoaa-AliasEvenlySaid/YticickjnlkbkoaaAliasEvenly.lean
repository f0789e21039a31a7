/- The statement AliasEvenly: of all strings of n bits by which a place is drawn, the part by which one place is, is its share. No condition. -/
import Derived.Test.YticickjnlkbkoaaRows
import Derived.WalkKit
import Derived.ProofKit
import Derived.OpenShut
import Derived.Test.YticickjnlkbkoaaAltF
import Derived.Test.YticickjnlkbkoaaAliG
import Derived.Test.YticickjnlkbkoaaAliI
import Derived.Deep.RegionHeld3
import Derived.Stop.RegionWithIn
import Derived.ShutString
import Derived.ChangeOld
import Derived.Below
namespace Go.Proofs.Yticickjnlkbkoaa.aliasEvenly
open Go.ChangeShapes Go.WideShapes Go.ChangeAt Go.RowKit
open Go.Proofs
open Go.ChangeMaps (open_string shut_string)
set_option linter.unusedVariables false

theorem own : ownKnob Try.prog.godebug = none := by kernel_rfl
theorem laidOut : laidOutB Try.prog = true := by kernel_rfl

/-- WHAT THE WALK IS TOLD OF A SLICE OF INTEGERS THAT CAME IN: it is nil; or it leads to a row of 'cap' cells, the numbers 'zs' (the first 'len' are its elements, the rest its spare room), each fitting its kind. -/
def IsRow (k : IntKind) (w : World) (a : Option Addr) (len cap : Nat) (zs : List Int) : Prop :=
  (a = none ∧ len = 0 ∧ cap = 0 ∧ zs = []) ∨
  ∃ x, a = some x ∧ len ≤ cap ∧ cap ≤ maxLen ∧ zs.length = cap ∧ (∀ i, i < zs.length → w.cell? (x.add i) = some (.int k (zs.getD i 0))) ∧ ∀ n ∈ zs, (Lit.int k n).wf = true

open Go.Proofs.AL Go.Proofs.BL Go.Proofs.SL Go.Proofs.RA Go.Proofs.BT Go.Proofs.RO Go.Shelf
set_option linter.unusedSimpArgs false
attribute [local go_sem] Oper.semAt_some

/-! ### STEP 1: THE WALK: the Go text returns true, AND WRITES NOTHING THAT WAS THERE: 'Below w.heap.size w w'' (Derived/Below.lean: '.refl', '.alloc', '.drew', '.setCell' at a new block, '.trans'). Open each 'IsRow' by 'rcases' AHEAD of 'go_enter'; part every test ahead of the walk. -/
set_option maxHeartbeats 8000000 in
set_option maxRecDepth 100000 in
theorem walk (a0 : Option Addr) (len0 cap0 : Nat) (z0 : List Int) (a1 : Int) (w : World) (w0 : IsRow .i64 w a0 len0 cap0 z0) (w1 : (Lit.int .u8 a1).wf = true) :
    Calls Try.prog 9 #[.slice a0 len0 cap0, .int .u8 a1] w fun e w' => e = .returned (.bool true) ∧ Below w.heap.size w w' := by
  have hbn := bounds_u8 w1
  obtain ⟨ws, rfl, hlen, Sx⟩ := Ri.of_row w0
  obtain ⟨o8, rfl⟩ : ∃ m : Nat, a1 = m := ⟨a1.toNat, by omega⟩
  obtain ⟨z, hz⟩ : ∃ z, z = o8 % 10 := ⟨_, rfl⟩
  have HE := Lib.hid (show (o8 : Int) % 10 = (z : Int) by omega)
  have hz1 : z ≤ 9 := by omega
  clear w0 w1 hz hbn
  by_cases hl : 100 < ws.length
  · have hl2 : (100 : Int) < (ws.length : Int) := by omega
    refine (callsIn_wide (n := 12)).1 ?_
    refine callsIn_of_wp_marks Try.func9 rfl trivial ?_ rfl
    simp only [Try.ntmps9, List.size_toArray, List.length_cons, List.length_nil, Nat.reduceAdd, Nat.reduceSub, Array.replicate_succ, Array.replicate_zero, List.push_toArray, List.append_toArray, List.nil_append, List.cons_append]
    gi_wp2_with fail
    have bW := (Boxed.new w 22 (.slice a0 ws.length cap0))
    have bR := Boxed.new (w.alloc (.cells #[.slice a0 ws.length cap0] 22)) 4 (.bool false)
    replace bW := boxed_nx bW ((Kp.refl _).al (.cells #[.bool false] 4))
    have K := Lib.hid (((Kp.refl w).al (.cells #[.slice a0 ws.length cap0] 22)).al (.cells #[.bool false] 4))
    have HS := Lib.hid (Sx.nx K.out)
    rw [World.size_alloc] at bR
    generalize ((w.alloc (.cells #[.slice a0 ws.length cap0] 22)).alloc (.cells #[.bool false] 4)) = W0 at *
    have cW := bW.cell
    have cR := bR.cell
    have fR := bR.frozen
    gi_wp2_with fail
    refine ⟨trivial, ?_⟩
    gi_wp2_with fail
    refine ⟨trivial, ?_⟩
    refine (callsIn_wide.2 (AL.awake _)).mono ?_; rintro e w1 ⟨rfl, hb⟩
    clear cW cR fR
    replace bR := boxed_nx bR hb
    replace bW := boxed_nx bW hb
    replace K := Lib.hid (Kp.nx K.out hb)
    replace HS := Lib.hid (HS.out.nx hb)
    clear hb
    have cR := bR.cell
    have fR := bR.frozen
    gi_wp2_with fail
    have KY := K.out.setCell (p := ⟨w.heap.size + 1, 0, none⟩) (by simp) (.bool true)
    have hY := (Boxed.set (.bool true) bR).cell
    refine ⟨_, by simp [results, Try.results9, go_sem, hY], rfl, KY⟩
  have hl2 : ¬ ((100 : Int) < (ws.length : Int)) := by omega
  obtain ⟨c, hc⟩ : ∃ z, z = whyW ws := ⟨_, rfl⟩
  by_cases hcc : c = 0
  · subst hcc
    have hz := hc
    have hn := why_len hz
    have hsp := sum_pos hz
    obtain ⟨hall, -⟩ := why0 hz
    have hq0 : ∀ j, 0 ≤ (ws.length : Int) * wf ws j := fun j => Int.mul_nonneg (by omega) (wf_ok hall j).1
    have hq1 : ∀ j, (ws.length : Int) * wf ws j ≤ 134217728 := fun j => by
      have h2 : (ws.length : Int) * wf ws j ≤ 64 * 1048576 := Int.mul_le_mul (by omega) (wf_ok hall j).2 (wf_ok hall j).1 (by omega)
      omega
    obtain ⟨hP, -⟩ := table_pl (n := ws.length) (w := wf ws) hn.1 hq0 hq1
    have hcols := table_cols (n := ws.length) (w := wf ws) hn.1 hq0 hq1
    have hsb := up_bd hall ws.length hn.2
    have HN1 := Lib.hid (fun (W : World) (h : Ri W a0 ws) => new1 ws a0 cap0 W h hn hz)
    have HX := Lib.hid (fun j => wf_ok hall j)
    obtain ⟨n, hnn⟩ : ∃ n, ws.length = n := ⟨_, rfl⟩
    have HP := Lib.hid hP.at'
    have HNN := Lib.hid hnn
    rw [hnn] at hn hsp hsb hl2 HN1 HP hcols ⊢
    generalize htb : table n (wf ws) = tb at *
    obtain ⟨S, hS⟩ : ∃ S : Nat, up (wf ws) n = S := ⟨(up (wf ws) n).toNat, by omega⟩
    rw [hS] at hsp hsb HN1 HP hcols
    have hS1 : 1 ≤ S ∧ S ≤ 67108864 := by omega
    have HCO := Lib.hid hcols
    have HCU := Lib.hid (show ∀ k, k < n → 0 ≤ tb.cu k ∧ tb.cu k ≤ (S : Int) from fun k hk => by
      rcases HP.out k hk with ⟨h1, -⟩ | ⟨-, -, h1, h2, -⟩ <;> omega)
    have HOT := Lib.hid (show ∀ k, k < n → 0 ≤ tb.ot k ∧ tb.ot k < (n : Int) from fun k hk => by
      rcases HP.out k hk with h | h <;> omega)
    generalize tb.cu = cu at *
    generalize tb.ot = ot at *
    have M1 := fun W => mk64 n (by omega) W
    have HS0 := Lib.hid Sx
    clear hz hc hall hP hl hlen htb hS hcols hq0 hq1 HP
    refine (callsIn_wide (n := 12)).1 ?_
    refine callsIn_of_wp_marks Try.func9 rfl trivial ?_ rfl
    simp only [Try.ntmps9, List.size_toArray, List.length_cons, List.length_nil, Nat.reduceAdd, Nat.reduceSub, Array.replicate_succ, Array.replicate_zero, List.push_toArray, List.append_toArray, List.nil_append, List.cons_append]
    gi_wp2_with fail
    have bW := (Boxed.new w 22 (.slice a0 n cap0))
    have bR := Boxed.new (w.alloc (.cells #[.slice a0 n cap0] 22)) 4 (.bool false)
    replace bW := boxed_nx bW ((Kp.refl _).al (.cells #[.bool false] 4))
    have K := Lib.hid (((Kp.refl w).al (.cells #[.slice a0 n cap0] 22)).al (.cells #[.bool false] 4))
    have HS := Lib.hid (HS0.out.nx K.out)
    rw [World.size_alloc] at bR
    generalize ((w.alloc (.cells #[.slice a0 n cap0] 22)).alloc (.cells #[.bool false] 4)) = W0 at *
    have cW := bW.cell
    have cR := bR.cell
    have fR := bR.frozen
    gi_wp2_with fail
    refine ⟨trivial, ?_⟩
    refine (callsIn_wide.2 (AL.awake _)).mono ?_; rintro e w1 ⟨rfl, hb⟩
    clear cW cR fR
    replace bR := boxed_nx bR hb
    replace bW := boxed_nx bW hb
    replace K := Lib.hid (Kp.nx K.out hb)
    replace HS := Lib.hid (HS.out.nx hb)
    clear hb
    have cW := bW.cell
    gi_wp2_with fail
    refine ⟨trivial, ?_⟩
    refine (callsIn_wide.2 (HN1.out _ HS.out)).mono ?_; rintro e w6 ⟨g, gc, go, rfl, hT, -, hb⟩
    have hR0 := (boxed_nx bR hb).lt
    have hTl : g < w6.heap.size ∧ gc < w6.heap.size ∧ go < w6.heap.size := ⟨hT.tb.lt, hT.cb.lt, hT.ob.lt⟩
    have cW := (boxed_nx (boxed_nx bW hb) ((Kp.refl w6).al (.cells #[.pointer (some ⟨g, 0, none⟩)] 24))).cell
    have F4 := Lib.hid (four w6 n (.pointer (some ⟨g, 0, none⟩)) 24 22 2)
    replace bR := boxed_nx (boxed_nx bR hb) F4.out.2.2.2.2.1
    replace bW := boxed_nx (boxed_nx bW hb) F4.out.2.2.2.2.1
    replace K := Lib.hid (Kp.nx (Kp.nx K.out hb) F4.out.2.2.2.2.1)
    have T := Lib.hid (hT.nx F4.out.2.2.2.2.1)
    clear hb hT HN1 HS
    gi_wp2_with fail
    try simp only [HE.out]
    clear cW HE M1
    obtain ⟨bT, bA, bG, bL, -, hs4⟩ := F4.out
    clear F4
    obtain ⟨G, hG⟩ : ∃ g, w6.heap.size = g := ⟨_, rfl⟩
    rw [hG] at bT bA bG bL hs4 hR0 hTl
    simp only [hG] at bT bA bG bL hs4 bR bW K T
    simp only [hG]
    generalize ((((w6.alloc (.cells #[.pointer (some ⟨g, 0, none⟩)] 24)).alloc (.cells (row n (fun _ => 0)) 2)).alloc (.cells #[.slice (some ⟨G + 1, 0, none⟩) n n] 22)).alloc (.cells #[.int .i64 0] 2)) = Y at *
    refine ⟨trivial, ?_⟩
    refine (callsIn_wide.2 (all_mk (z : Int) Y)).mono ?_; rintro e V2 ⟨rfl, hV2⟩
    have KA : Kp Y (Y.alloc (.cells #[.int .i64 (z : Int)] 3)) := (Kp.refl _).al _
    rw [hV2] at KA
    have bZ := Boxed.new Y 3 (.int .i64 (z : Int))
    rw [hV2, hs4] at bZ
    have hs2 : V2.heap.size = G + 1 + 1 + 1 + 1 + 1 := by rw [← hV2, World.size_alloc, hs4]
    replace bR := boxed_nx bR KA
    replace bW := boxed_nx bW KA
    replace bT := boxed_nx bT KA
    replace bG := boxed_nx bG KA
    replace bL := boxed_nx bL KA
    replace bA := bA.nx KA
    replace T := Lib.hid (T.out.nx KA)
    replace K := Lib.hid (Kp.nx K.out KA)
    clear hV2 KA
    gi_wp2_with fail
    try simp only [hs4]
    clear hs4 hG
    have HI := Lib.hid (show (fun i X => Sv V2 (G + 1) (G + 1 + 1 + 1) X ∧ X.heap[G + 1]? = some (.cells (cnts n (got n S cu ot z i)) 2 (0, 0)) ∧ X.heap[G + 1 + 1 + 1]? = some (.cells #[.int .i64 ((alls n S z i : Nat) : Int)] 2 (0, 0)) ∧ Below w.heap.size w X) 0 V2 from ⟨Sv.refl _ _ _, bA, bL, K.out⟩)
    refine rangeO rfl (by decide) (gf := 54) (lb := #[.pointer (some ⟨G + 1 + 1 + 1 + 1, 0, none⟩)]) rfl trivial (enters_of Try.func54 (by kernel_rfl) rfl)
      (all_seq _ (G + 1 + 1 + 1 + 1) z (2 ^ z) rfl V2 (by omega) (by omega) bZ.cell) (Below.refl _ _) (fun l _ h1 h2 _ h => by rcases h with h | h <;> omega) (fun _ => rfl)
      (fun i X => Sv V2 (G + 1) (G + 1 + 1 + 1) X ∧ X.heap[G + 1]? = some (.cells (cnts n (got n S cu ot z i)) 2 (0, 0)) ∧ X.heap[G + 1 + 1 + 1]? = some (.cells #[.int .i64 ((alls n S z i : Nat) : Int)] 2 (0, 0)) ∧ Below w.heap.size w X)
      (fun _ _ _ => False)
      (OwnFrom.and (own_sv (Nat.le_refl _)) (OwnFrom.and (own_objf (by omega)) (OwnFrom.and (own_objf (by omega)) (ownFrom_below (Nat.le_refl _) (by omega)))))
      (fun _ _ _ _ _ hs _ _ => hs)
      HI.out ?round ?done ?stop
    case stop =>
      rintro D c k X hD hk h hK
      exact h.elim
    case round =>
      clear K HI bA bL
      intro lr i V0 hlr hi
      gi_wp2
      refine ⟨rfl, ?_⟩
      rintro X ⟨hv, bA, bL, KX⟩
      have bA : Bk X (G + 1) (cnts n (got n S cu ot z i)) 2 := bA
      have bL : Boxed X (G + 1 + 1 + 1) 2 (.int .i64 ((alls n S z i : Nat) : Int)) := bL
      have hi9 : i ≤ 512 := by
        have : 2 ^ z ≤ 2 ^ 9 := Nat.pow_le_pow_right (by decide) hz1
        omega
      obtain ⟨RR, hRR⟩ : ∃ R, tdr n S cu ot (ofB i z) 0 false = R := ⟨_, rfl⟩
      obtain ⟨P, is, at', ov⟩ := RR
      have hbd := tdr_bd (by omega) (by omega) HOT.out hRR
      obtain ⟨p, rfl⟩ : ∃ p : Nat, P = p := ⟨P.toNat, by omega⟩
      have hpn : p < n := by omega
      have hp1 : ¬ ((p : Int) < 0) := by omega
      have hp2 : ¬ ((n : Int) ≤ (p : Int)) := by omega
      have hp3 : (p : Int) < (n : Int) := by omega
      have hp4 : (0 : Int) ≤ (p : Int) := by omega
      have hB := (ofB_bits i z).resolve_right (by omega)
      have HC := Lib.hid (fun W1 => new1_ok (ofB i z) W1 (by rw [ofB_size]; omega) hB)
      have HD := Lib.hid (fun (W1 : World) (b : Nat) (h : Tb W1 g gc go n (S : Int) cu ot) (hc : Cp W1 b (ofB i z) 0 false) (hne : g ≠ b ∧ gc ≠ b ∧ go ≠ b) => tdraw S b 0 (ofB i z) false h hn hS1 hc hne (Nat.zero_le _) (by rw [ofB_size]; omega) (isB_bits hB) p is at' ov hRR)
      have HRR := Lib.hid hRR
      have hXs : G + 1 + 1 + 1 + 1 + 1 ≤ X.heap.size := by rw [← hs2]; exact hv.size
      have HV := Lib.hid (fun (X9 : World) (h9 : Sv V2 (G + 1) (G + 1 + 1 + 1) X9) => show Boxed X9 w.heap.size 22 (.slice a0 n cap0) ∧ Boxed X9 G 24 (.pointer (some ⟨g, 0, none⟩)) ∧ Boxed X9 (G + 1 + 1) 22 (.slice (some ⟨G + 1, 0, none⟩) n n) ∧ Tb X9 g gc go n (S : Int) cu ot from
        ⟨h9.box bW (by omega) (by omega), h9.box bT (by omega) (by omega), h9.box bG (by omega) (by omega), h9.tb T.out (by omega) (by omega)⟩)
      have hTX : g < X.heap.size ∧ gc < X.heap.size ∧ go < X.heap.size := by omega
      obtain ⟨q, hq⟩ : ∃ q, q = got n S cu ot z i p := ⟨_, rfl⟩
      obtain ⟨al, hal⟩ : ∃ q, q = alls n S z i := ⟨_, rfl⟩
      have hq9 : q ≤ 512 := by rw [hq]; exact Nat.le_trans (got_le p) hi9
      have hal9 : al ≤ 512 := by rw [hal]; exact Nat.le_trans alls_le hi9
      have hqp := cnts_get (got n S cu ot z i) hpn
      rw [← hq] at hqp
      rw [← hal] at bL
      have HQ := Lib.hid hq
      have HAL := Lib.hid hal
      have HS9 := Lib.hid hv
      clear hRR hbd hB hq hal bW bT bG T hv HX HCO HCU HOT HNN
      cases is
      · gi_wp2_with (first
            | (refine ⟨trivial, ?_⟩; gi_at_call 26; refine (CallsIn.inRound lr (callsIn_wide.2 (HC.out _))).mono ?_; rintro e X1 ⟨rfl, hc1, hb1⟩; have hs1 := HS9.out.below hb1; have cT := (HV.out _ hs1).2.1.cell; have D9 := Lib.hid (HD.out X1 X.heap.size (HV.out _ hs1).2.2.2 hc1 (by omega)); clear HC HD)
            | (refine ⟨trivial, ?_⟩; gi_at_call 28; refine (CallsIn.inRound lr (callsIn_wide.2 D9.out)).mono ?_; rintro e X2 ⟨rfl, -, hgr⟩; have hb4 : Kp X X2 := Kp.grown hb1 hgr (fun k e => by cases e; exact Nat.le_refl _); have hs9 := HS9.out.below hb4; have KX2 := KX.trans (Below.mono hb4 KX.size); replace bA := bA.nx hb4; replace bL := boxed_nx bL hb4; have cW := (HV.out _ hs9).1.cell; have cG := (HV.out _ hs9).2.2.1.cell; have cA := (bA.c p).trans hqp; have fA := bA.f p; have cL := bL.cell; have fL := bL.frozen; clear D9 cT))
        obtain ⟨eg, ea⟩ := got_no (by omega) (by omega) HRR.out
        rw [← HAL.out] at ea
        refine ⟨⟨keepsFrom_below hb4, Kb.below hb4⟩, hs9, ?_, ?_, KX2⟩
        · exact Eq.trans bA (congrArg (fun c => some (Obj.cells (cnts n c) 2 (0, 0))) eg.symm)
        · exact Eq.trans bL (congrArg (fun c : Nat => some (Obj.cells #[.int .i64 (c : Int)] 2 (0, 0))) ea.symm)
      · gi_wp2_with (first
            | (refine ⟨trivial, ?_⟩; gi_at_call 26; refine (CallsIn.inRound lr (callsIn_wide.2 (HC.out _))).mono ?_; rintro e X1 ⟨rfl, hc1, hb1⟩; have hs1 := HS9.out.below hb1; have cT := (HV.out _ hs1).2.1.cell; have D9 := Lib.hid (HD.out X1 X.heap.size (HV.out _ hs1).2.2.2 hc1 (by omega)); clear HC HD)
            | (refine ⟨trivial, ?_⟩; gi_at_call 28; refine (CallsIn.inRound lr (callsIn_wide.2 D9.out)).mono ?_; rintro e X2 ⟨rfl, -, hgr⟩; have hb4 : Kp X X2 := Kp.grown hb1 hgr (fun k e => by cases e; exact Nat.le_refl _); have hs9 := HS9.out.below hb4; have KX2 := KX.trans (Below.mono hb4 KX.size); replace bA := bA.nx hb4; replace bL := boxed_nx bL hb4; have cW := (HV.out _ hs9).1.cell; have cG := (HV.out _ hs9).2.2.1.cell; have cA := (bA.c p).trans hqp; have fA := bA.f p; have cL := bL.cell; have fL := bL.frozen; clear D9 cT))
        obtain ⟨eg, ea⟩ := got_yes (by omega) (by omega) HRR.out
        rw [← HQ.out] at eg
        rw [← HAL.out] at ea
        have bA2 := bA.set p (.int .i64 ((q + 1 : Nat) : Int))
        rw [cnts_set _ _ hpn] at bA2
        have g1 := grown_set X2 (G + 1) p (.int .i64 ((q : Int) + 1))
        have g2 := grown_set (X2.setCell ⟨G + 1, p, none⟩ (.int .i64 ((q : Int) + 1))) (G + 1 + 1 + 1) 0 (.int .i64 ((al : Int) + 1))
        have ec : ((q + 1 : Nat) : Int) = (q : Int) + 1 := by omega
        have ec2 : ((al + 1 : Nat) : Int) = (al : Int) + 1 := by omega
        rw [ec] at bA2
        refine ⟨⟨?_, ?_⟩, (hs9.grown g1 (fun k e => by cases e; exact .inr (.inl rfl))).grown g2 (fun k e => by cases e; exact .inr (.inr rfl)), ?_, ?_, (KX2.setCell (p := ⟨G + 1, p, none⟩) (by simp; omega) _).setCell (p := ⟨G + 1 + 1 + 1, 0, none⟩) (by simp; omega) _⟩
        · exact (keepsFrom_below hb4).trans (KeepsFrom.trans ⟨g1.size, fun k o hk ho _ => (Below.heap_setCell _ _ _ k (by simp; omega)).trans ho⟩ ⟨g2.size, fun k o hk ho _ => (Below.heap_setCell _ _ _ k (by simp; omega)).trans ho⟩)
        · exact (Kb.below hb4).trans ((Kb.grown g1 (fun r o e ho => by cases e; intro h; rcases h with h | h <;> omega)).trans (Kb.grown g2 (fun r o e ho => by cases e; intro h; rcases h with h | h <;> omega)))
        · exact Eq.trans ((Below.heap_setCell _ _ _ (G + 1) (by simp; try omega)).trans bA2) (congrArg (fun c => some (Obj.cells (cnts n c) 2 (0, 0))) eg.symm)
        · have bL2 := Boxed.set (.int .i64 ((al : Int) + 1)) (bL.kept g1 (by simp; try omega))
          rw [← ec2, ← ea] at bL2
          rw [← ec2, ← ea]
          exact bL2
    case done =>
      rintro D X hD ⟨hv, bA, bL, KX⟩ hK
      have bA : Bk X (G + 1) (cnts n (got n S cu ot z (2 ^ z))) 2 := bA
      have bL : Boxed X (G + 1 + 1 + 1) 2 (.int .i64 ((alls n S z (2 ^ z) : Nat) : Int)) := bL
      have hz9 : 2 ^ z ≤ 512 := Nat.le_trans (Nat.pow_le_pow_right (by decide) hz1) (by decide)
      obtain ⟨al, hal⟩ : ∃ q, q = alls n S z (2 ^ z) := ⟨_, rfl⟩
      have hal9 : al ≤ 512 := by rw [hal]; exact Nat.le_trans alls_le hz9
      rw [← hal] at bL
      have HEV := Lib.hid (fun (j : Nat) (hj : j < n) => show ∃ q x y : Nat, (cnts n (got n S cu ot z (2 ^ z)))[j]? = some (.int .i64 (q : Int)) ∧ wf ws j = x ∧ x ≤ 1048576 ∧ y = q * S ∧ y = x * al ∧ y ≤ 512 * 67108864 from by
        have hxb := HX.out j
        obtain ⟨x, hx⟩ : ∃ x : Nat, wf ws j = x := ⟨(wf ws j).toNat, by omega⟩
        have hmq := mny_eq S cu ot j n
        rw [if_pos hj, HCO.out j hj, hx] at hmq
        have hev := evenly (z := z) (show 0 < n by omega) (show 0 < S by omega) HCU.out hmq
        have hq9 := Nat.le_trans (got_le (n := n) (S := S) (cu := cu) (ot := ot) (z := z) (i := 2 ^ z) j) hz9
        rw [← hal] at hev
        exact ⟨got n S cu ot z (2 ^ z) j, x, _, cnts_get _ hj, hx, by omega, rfl, hev, Nat.mul_le_mul hq9 hS1.2⟩)
      have HV := Lib.hid (fun (X9 : World) (h9 : Kp X X9) => show Boxed X9 w.heap.size 22 (.slice a0 n cap0) ∧ Boxed X9 G 24 (.pointer (some ⟨g, 0, none⟩)) ∧ Boxed X9 (G + 1 + 1) 22 (.slice (some ⟨G + 1, 0, none⟩) n n) ∧ Boxed X9 (G + 1 + 1 + 1) 2 (.int .i64 (al : Int)) ∧ Bk X9 (G + 1) (cnts n (got n S cu ot z (2 ^ z))) 2 ∧ Tb X9 g gc go n (S : Int) cu ot ∧ Boxed X9 (w.heap.size + 1) 4 (.bool false) ∧ Ri X9 a0 ws from
        ⟨boxed_nx (hv.box bW (by omega) (by omega)) h9, boxed_nx (hv.box bT (by omega) (by omega)) h9, boxed_nx (hv.box bG (by omega) (by omega)) h9, boxed_nx bL h9, bA.nx h9, (hv.tb T.out (by omega) (by omega)).nx h9, boxed_nx (hv.box bR (by omega) (by omega)) h9, HS0.out.nx (Kp.nx KX h9)⟩)
      have hRD : w.heap.size + 1 ≠ D := by omega
      have hDl : D < X.heap.size := (Array.getElem?_eq_some_iff.1 hK).1
      have hRl : w.heap.size + 1 ≤ D := by omega
      clear bA bL bW bT bG bR hal T hv K HI HCU HCO HOT HX
      gi_wp2_with fail
      refine wpIn_wide.2 ?_
      go_loopw [14] (fun s14 wr => ∃ j : Nat, s14 = .int .i64 (j : Int) ∧ j ≤ n ∧ Hid (Kp X wr)) (fun v _ => n - (intOf v).toNat)
      case atStart => exact ⟨0, rfl, by omega, Lib.hid (Kp.refl _)⟩
      case round =>
        obtain ⟨j, rfl, hj, KJ⟩ := hrel
        have cW := (HV.out _ KJ.out).1.cell
        by_cases hlt : j < n
        · have hlt2 : (j : Int) < (n : Int) := by omega
          have hj0 : (0 : Int) ≤ (j : Int) := by omega
          have hjw : j < ws.length := by rw [HNN.out]; exact hlt
          obtain ⟨q, x, y, hq, hx, hx9, hy1, hy2, hy9⟩ := HEV.out j hlt
          obtain ⟨bb, off, rfl, hbl, hcl⟩ := (HV.out _ KJ.out).2.2.2.2.2.2.2.get hjw
          have cx := hcl j hjw
          rw [← wf_get ws j hjw, hx] at cx
          have cT := (HV.out _ KJ.out).2.1.cell
          have cG := (HV.out _ KJ.out).2.2.1.cell
          have cL := (HV.out _ KJ.out).2.2.2.1.cell
          have cA := ((HV.out _ KJ.out).2.2.2.2.1.c j).trans hq
          have HSU := Lib.hid (fun q' => sum1 ((HV.out _ KJ.out).2.2.2.2.2.1.dr q'))
          have hyI : (q : Int) * (S : Int) = (y : Int) := by rw [hy1, Int.natCast_mul]
          have hyI2 : (x : Int) * (al : Int) = (y : Int) := by rw [hy2, Int.natCast_mul]
          have hyw : IntKind.i64.wrap (y : Int) = (y : Int) := by rw [IntKind.wrap_i64]; omega
          have hyt : ((y : Int) == (y : Int)) = true := by simp
          clear HV HEV hcl hq hx hy1 hy2 hbl hjw hlt
          go_wp2_with fail
          go_quiet (first | (go_at_call 14; exact (HSU.out _).mono (fun _ _ h => ⟨h.1, _, h.2.symm⟩)))
          go_wp2_with fail
          go_roundw
          case rel => exact ⟨j + 1, by go_num, by omega, Lib.hid (KJ.out.dr nq)⟩
          case measure => simp [intOf]; omega
        · have hlt2 : ¬ ((j : Int) < (n : Int)) := by omega
          have bR := (HV.out _ KJ.out).2.2.2.2.2.2.1
          have cR := bR.cell
          have fR := bR.frozen
          have hKr : wr.heap[D]? = some (.deferred (some [])) := (KJ.out.below.block D hDl).trans hK
          have KR : Below w.heap.size w wr := Kp.nx KX KJ.out
          clear HEV HV
          go_wp2_with fail
          gi_wp2_with fail
          have hK2 := (Below.heap_setCell wr ⟨w.heap.size + 1, 0, none⟩ (.bool true) D (fun e => hRD e.symm)).trans hKr
          have hY := (((Boxed.set (.bool true) bR).kept (grownBy_putObj' _ D (.deferred none)) (by simp; exact hRD))).cell
          have KY := KR.setCell (p := ⟨w.heap.size + 1, 0, none⟩) (by simp) (.bool true)
          refine ⟨by simp, .inl ⟨_, _, rfl, run_takeDeferred hK2, ?_⟩⟩
          refine ⟨_, by simp [results, Try.results9, go_sem, hY], rfl, KY.grown (grownBy_putObj' _ D _) KY.size (fun k e => by cases e; omega)⟩
  · have HN := Lib.hid (fun (W : World) (h : Ri W a0 ws) => new_no ws a0 cap0 W h hlen c hc hcc)
    have hcb : (c == 0) = false := by rw [beq_eq_false_iff_ne]; exact hcc
    have hcb2 : ¬ (c = 0) := hcc
    clear hc hcc
    refine (callsIn_wide (n := 12)).1 ?_
    refine callsIn_of_wp_marks Try.func9 rfl trivial ?_ rfl
    simp only [Try.ntmps9, List.size_toArray, List.length_cons, List.length_nil, Nat.reduceAdd, Nat.reduceSub, Array.replicate_succ, Array.replicate_zero, List.push_toArray, List.append_toArray, List.nil_append, List.cons_append]
    gi_wp2_with fail
    have bW := (Boxed.new w 22 (.slice a0 ws.length cap0))
    have bR := Boxed.new (w.alloc (.cells #[.slice a0 ws.length cap0] 22)) 4 (.bool false)
    replace bW := boxed_nx bW ((Kp.refl _).al (.cells #[.bool false] 4))
    have K := Lib.hid (((Kp.refl w).al (.cells #[.slice a0 ws.length cap0] 22)).al (.cells #[.bool false] 4))
    have HS := Lib.hid (Sx.nx K.out)
    rw [World.size_alloc] at bR
    generalize ((w.alloc (.cells #[.slice a0 ws.length cap0] 22)).alloc (.cells #[.bool false] 4)) = W0 at *
    have cW := bW.cell
    have cR := bR.cell
    have fR := bR.frozen
    gi_wp2_with fail
    refine ⟨trivial, ?_⟩
    refine (callsIn_wide.2 (AL.awake _)).mono ?_; rintro e w1 ⟨rfl, hb⟩
    clear cW cR fR
    replace bR := boxed_nx bR hb
    replace bW := boxed_nx bW hb
    replace K := Lib.hid (Kp.nx K.out hb)
    replace HS := Lib.hid (HS.out.nx hb)
    clear hb
    have cW := bW.cell
    gi_wp2_with fail
    refine ⟨trivial, ?_⟩
    refine (callsIn_wide.2 (HN.out _ HS.out)).mono ?_; rintro e w' ⟨rfl, rfl⟩
    have KA := (Kp.refl w1).al (.cells #[.pointer none] 24)
    replace bR := boxed_nx bR KA
    replace K := Lib.hid (Kp.nx K.out KA)
    clear KA HS HN
    have cR := bR.cell
    have fR := bR.frozen
    gi_wp2_with fail
    have KY := K.out.setCell (p := ⟨w.heap.size + 1, 0, none⟩) (by simp) (.bool true)
    have hY := (Boxed.set (.bool true) bR).cell
    refine ⟨_, by simp [results, Try.results9, go_sem, hY], rfl, KY⟩

/-! ### THE ROW's STEP: WRITTEN OUT: LEAVE IT -/
set_option maxRecDepth 100000 in
theorem lifted (os : Os) (started : os.Started) (H : Type) (enc : TypeId × Value → H) :
    ReturnsInHanded {} Try.checked os 9 .any (Rows.aliasEvenlySpec.pre6 enc Try.prog Try.f9 Rows.aliasEvenlyRow.domain false) (Rows.aliasEvenlySpec.post enc Try.prog Try.f9 false true false false) := by
  refine returnsInHanded_of_change (C := Try.checked) own started (by kernel_rfl) Try.func9
    (ChangeSpec.witness6 (enc := enc) (C := Try.checked) false ⟨#[], #[.slice none 0 0, .int .u8 0], []⟩ 8 (by kernel_rfl) (by kernel_rfl) (by kernel_rfl) (by kernel_rfl)) ?_
  intro W base args ds gs before hval0 hW hcnd _
  have hval : ∀ (j : Nat) t v, Try.f9.params[j]? = some t → args[j]? = some v → Value.okWide Try.prog W .any base t v := hval0
  have hW' := hW
  obtain ⟨p, q, hA0, hV, rfl, hfz, hnd⟩ := hW
  have hA : DataW.TrodAll enc Try.prog W 0 (fun _ => true) true Try.f9.params.toList args.toList ds p := hA0
  rw [Try.params9] at hA hval
  obtain ⟨v0, vs0, d0, ds0, p0, q0, hargs, rfl, rfl, h0, r0⟩ := trodAll_cons hA
  obtain ⟨v1, vs1, d1, ds1, p1, q1, rfl, rfl, rfl, h1, r1⟩ := trodAll_cons r0
  obtain ⟨rfl, rfl, rfl⟩ := trodAll_nil r1
  obtain rfl : args = #[v0, v1] := by cases args; simp_all
  obtain ⟨rfl, rfl⟩ := trodVars_none hV
  obtain ⟨a0, len0, cap0, rfl⟩ := okWide_slice Try.underlying22 (hval 0 22 v0 rfl rfl)
  have k0 := h0
  have lt0 : ∀ x ∈ p0, x.block < W.heap.size := by obtain ⟨m, hm⟩ := k0; exact DataW.trod_lt m _ _ _ hm
  obtain ⟨z0, w0⟩ : ∃ zs, IsRow .i64 W a0 len0 cap0 zs := by
    obtain ⟨fuel, hf⟩ := h0
    rcases open_ints Try.underlying22 Try.underlying2 (by kernel_rfl) hf with ⟨hcs, _⟩ | ⟨x, l, c, zs, hcs, _, hl, hm, hz, _, hcell, hwz⟩
    · simp [Value.cells] at hcs
      obtain ⟨rfl, rfl, rfl⟩ := hcs
      exact ⟨[], .inl ⟨rfl, rfl, rfl, rfl⟩⟩
    · simp [Value.cells] at hcs
      obtain ⟨rfl, rfl, rfl⟩ := hcs
      exact ⟨zs, .inr ⟨_, rfl, hl, hm, by simpa using hz, hcell, hwz⟩⟩
  obtain ⟨a1, rfl, rfl, rfl, w1⟩ := open_int Try.underlying5 (hval 1 5 v1 rfl rfl) h1
  clear hA0 hval0
  refine (walk a0 len0 cap0 z0 a1 W w0 w1).mono fun e W' ⟨he, bel⟩ => ?_
  subst he
  exact ⟨_, rfl, _, _, _, [], _, [], hW', trodAll_mk1 (shut_bool Try.underlying4 _), (trodAll_cons_mk (Below.trod laidOut (by kernel_rfl) (of_decide_eq_true (by kernel_rfl)) k0 bel lt0) (trodAll_cons_mk (shut_int Try.underlying5 w1) trodAll_mk0)), rfl, bel.frame _, fun h => by cases h⟩

theorem over : Rows.aliasEvenlyRow.holds Try.pinned (OpenSpec.ofChange Rows.aliasEvenlySpec) :=
  OpenClaim.holds_of_wide 9 Try.f9 rfl rfl rfl rfl rfl rfl rfl ⟨rfl, rfl, rfl, rfl, rfl⟩ rfl rfl rfl rfl rfl (by kernel_rfl) Try.func9 (by kernel_rfl)
    (of_decide_eq_true (by kernel_rfl)) (by unfold Func.isWrapper; first | (rw [if_pos (by decide +kernel)]; kernel_rfl) | (rw [if_neg (by decide +kernel)]; exact ⟨rfl, rfl⟩))
    (fun os started H enc _ => lifted os started H enc)

/-- ████ THE STATEMENT ████ -/
theorem proved : Rows.AliasEvenlySaid := over
#print axioms proved
end Go.Proofs.Yticickjnlkbkoaa.aliasEvenly
