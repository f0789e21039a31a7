/- The statement AliasTwo: what is drawn is picked by the numbers that are drawn, in their row; with other bits behind it is the same. No condition. -/
import Derived.Test.YticickjnlkbkoaaRows
import Derived.WalkKit
import Derived.ProofKit
import Derived.OpenShut
import Derived.Test.YticickjnlkbkoaaAliT
import Derived.Test.YticickjnlkbkoaaAliG
import Derived.Test.YticickjnlkbkoaaAliI
import Derived.ShutString
import Derived.ChangeOld
import Derived.Below
namespace Go.Proofs.Yticickjnlkbkoaa.aliasTwo
open Go.ChangeShapes Go.WideShapes Go.ChangeAt Go.RowKit
open Go.Proofs
open Go.ChangeMaps (open_string shut_string)
set_option linter.unusedVariables false

theorem own : ownKnob Try.prog.godebug = none := by kernel_rfl
theorem laidOut : laidOutB Try.prog = true := by kernel_rfl

/-- WHAT THE WALK IS TOLD OF A SLICE OF INTEGERS THAT CAME IN: it is nil; or it leads to a row of 'cap' cells, the numbers 'zs' (the first 'len' are its elements, the rest its spare room), each fitting its kind. -/
def IsRow (k : IntKind) (w : World) (a : Option Addr) (len cap : Nat) (zs : List Int) : Prop :=
  (a = none ∧ len = 0 ∧ cap = 0 ∧ zs = []) ∨
  ∃ x, a = some x ∧ len ≤ cap ∧ cap ≤ maxLen ∧ zs.length = cap ∧ (∀ i, i < zs.length → w.cell? (x.add i) = some (.int k (zs.getD i 0))) ∧ ∀ n ∈ zs, (Lit.int k n).wf = true

open Go.Proofs.AL Go.Proofs.SL Go.Proofs.RA Go.Proofs.BL Go.Proofs.BT
set_option linter.unusedSimpArgs false

/-! ### STEP 1: THE WALK: the Go text returns true, AND WRITES NOTHING THAT WAS THERE: 'Below w.heap.size w w'' (Derived/Below.lean: '.refl', '.alloc', '.drew', '.setCell' at a new block, '.trans'). Open each 'IsRow' by 'rcases' AHEAD of 'go_enter'; part every test ahead of the walk. -/
set_option maxHeartbeats 8000000 in
set_option maxRecDepth 100000 in
theorem walk (a0 : Option Addr) (len0 cap0 : Nat) (z0 : List Int) (a1 : ByteArray) (a2 : ByteArray) (w : World) (w0 : IsRow .i64 w a0 len0 cap0 z0) (w1 : a1.size ≤ maxLen) (w2 : a2.size ≤ maxLen) :
    Calls Try.prog 8 #[.slice a0 len0 cap0, .string a1, .string a2] w fun e w' => e = .returned (.bool true) ∧ Below w.heap.size w w' := by
  obtain ⟨ws, rfl, hlen, Sx⟩ := Ri.of_row w0
  unfold maxLen at w1 w2
  obtain ⟨z0, hz0⟩ : ∃ z, z = isB a1 := ⟨_, rfl⟩
  obtain ⟨z1, hz1⟩ : ∃ z, z = isB a2 := ⟨_, rfl⟩
  have HI0 := Lib.hid (fun w1 => is1w a1 w1 (by omega) z0 hz0)
  have HI1 := Lib.hid (fun w2 => is1w a2 w2 (by omega) z1 hz1)
  have HZ0 := Lib.hid hz0
  have HZ1 := Lib.hid hz1
  clear w0 hz0 hz1
  by_cases hl : 100 < ws.length
  · have hl2 : (100 : Int) < (ws.length : Int) := by omega
    go_enter Try.func8, Try.ntmps8
    go_wp2_with fail
    refine (AL.awake _).mono ?_; rintro e w5 ⟨rfl, hb⟩
    have K := Lib.hid hb
    go_wp2_with fail
    go_ret
    exact ⟨rfl, K.out⟩
  have hl2 : ¬ ((100 : Int) < (ws.length : Int)) := by omega
  have hrest : z0 = false ∨ (z0 = true ∧ z1 = false) ∨ (z0 = true ∧ z1 = true ∧ 1024 < a1.size + a2.size) ∨ (z0 = true ∧ z1 = true ∧ a1.size + a2.size ≤ 1024) := by
    have := Nat.lt_or_ge 1024 (a1.size + a2.size)
    cases z0 <;> cases z1 <;> simp <;> omega
  rcases hrest with rfl | ⟨rfl, rfl⟩ | ⟨rfl, rfl, hs⟩ | ⟨rfl, rfl, hs⟩
  · clear HZ0 HZ1 HI1 Sx
    go_enter Try.func8, Try.ntmps8
    go_wp2_with fail
    refine (HI0.out _).mono ?_; rintro e w' ⟨rfl, rfl⟩
    go_wp2_with fail
    refine (AL.awake _).mono ?_; rintro e w5 ⟨rfl, hb⟩
    have K := Lib.hid hb
    go_wp2_with fail
    go_ret
    exact ⟨rfl, K.out⟩
  · clear HZ0 HZ1 Sx
    go_enter Try.func8, Try.ntmps8
    go_wp2_with fail
    refine (HI0.out _).mono ?_; rintro e w' ⟨rfl, rfl⟩
    go_wp2_with fail
    refine (HI1.out _).mono ?_; rintro e w' ⟨rfl, rfl⟩
    go_wp2_with fail
    refine (AL.awake _).mono ?_; rintro e w5 ⟨rfl, hb⟩
    have K := Lib.hid hb
    go_wp2_with fail
    go_ret
    exact ⟨rfl, K.out⟩
  · have s0 := isB_le HZ0.out.symm
    have s1 := isB_le HZ1.out.symm
    have hw : IntKind.i64.wrap ((a1.size : Int) + (a2.size : Int)) = (a1.size : Int) + (a2.size : Int) := by rw [IntKind.wrap_i64]; omega
    have hlt : (1024 : Int) < (a1.size : Int) + (a2.size : Int) := by omega
    clear HZ0 HZ1 Sx
    go_enter Try.func8, Try.ntmps8
    go_wp2_with fail
    refine (HI0.out _).mono ?_; rintro e w' ⟨rfl, rfl⟩
    go_wp2_with fail
    refine (HI1.out _).mono ?_; rintro e w' ⟨rfl, rfl⟩
    go_wp2_with fail
    refine (AL.awake _).mono ?_; rintro e w5 ⟨rfl, hb⟩
    have K := Lib.hid hb
    go_wp2_with fail
    go_ret
    exact ⟨rfl, K.out⟩
  · have s0 := isB_le HZ0.out.symm
    have s1 := isB_le HZ1.out.symm
    have hw : IntKind.i64.wrap ((a1.size : Int) + (a2.size : Int)) = (a1.size : Int) + (a2.size : Int) := by rw [IntKind.wrap_i64]; omega
    have hlt : ¬ ((1024 : Int) < (a1.size : Int) + (a2.size : Int)) := by omega
    have HS := Lib.hid Sx
    clear Sx
    obtain ⟨z, hz⟩ : ∃ z, z = whyW ws := ⟨_, rfl⟩
    by_cases hzz : z = 0
    · subst hzz
      have hn := why_len hz
      have hsp := sum_pos hz
      obtain ⟨hall, -⟩ := why0 hz
      obtain ⟨hP, hO⟩ := table_pl (n := ws.length) (w := wf ws) hn.1 (fun j => Int.mul_nonneg (by omega) (wf_ok hall j).1) (fun j => by
        have h2 : (ws.length : Int) * wf ws j ≤ 64 * 1048576 := Int.mul_le_mul (by omega) (wf_ok hall j).2 (wf_ok hall j).1 (by omega)
        omega)
      have hsb := up_bd hall ws.length hn.2
      have HN := Lib.hid (fun (W : World) (h : Ri W a0 ws) => new1 ws a0 cap0 W h hn hz)
      obtain ⟨n, hnn⟩ : ∃ n, ws.length = n := ⟨_, rfl⟩
      have HP := Lib.hid hP.at'
      rw [hnn] at hn hsp hsb hl2 HN HP ⊢
      generalize htb : table n (wf ws) = tb at *
      obtain ⟨S, hS⟩ : ∃ S : Nat, up (wf ws) n = S := ⟨(up (wf ws) n).toNat, by omega⟩
      rw [hS] at hsp hsb HN HP
      have hS1 : 1 ≤ S ∧ S ≤ 67108864 := by omega
      obtain ⟨d, hd⟩ : ∃ d, d = draw a1 n 0 false := ⟨_, rfl⟩
      obtain ⟨e2, he⟩ : ∃ e, e = draw a1 S d.at' d.ov := ⟨_, rfl⟩
      have hda : d.at' ≤ a1.size := by rw [hd]; exact (draw_le (Nat.zero_le _)).2
      have hea : e2.at' ≤ a1.size := by rw [he]; exact (draw_le hda).2
      have hex : e2.is = true → e2.x < S := by rw [he]; exact draw_lt
      have hdx : d.is = true → d.x < n := by rw [hd]; exact draw_lt
      have hdo : d.ov = !d.is := by rw [hd]; have := draw_is (s := a1) (a := 0) (show 0 < n by omega); rw [this]; simp
      have heo : d.is = true → e2.ov = !e2.is := fun h => by
        rw [h] at hdo
        rw [he, hdo]
        have := draw_is (s := a1) (a := d.at') (show 0 < S by omega)
        rw [show (!true) = false from rfl, this]; simp
      have hno : d.is = false → e2 = ⟨0, false, d.at', true⟩ := fun h => by
        rw [h] at hdo
        rw [he, hdo]
        exact draw_ov (by omega) rfl
      have hbt := isB_bits HZ0.out.symm
      have HC1 := Lib.hid (fun w1 => new1_ok a1 w1 (by omega) HZ0.out.symm)
      have HD1 := Lib.hid (fun (g : Nat) (W : World) (h : Cp W g a1 0 false) => draw1 g 0 n a1 false W h (by omega) (by omega) hbt (by omega) d hd)
      have HD2 := Lib.hid (fun (g : Nat) (W : World) (h : Cp W g a1 d.at' d.ov) => draw1 g d.at' S a1 d.ov W h hda (by omega) hbt (by omega) e2 he)
      have hw1 : IntKind.u64.wrap (n : Int) = (n : Int) := W.wrapN _ (by omega)
      have hw2 : IntKind.u64.wrap (S : Int) = (S : Int) := W.wrapN _ (by omega)
      obtain ⟨R, hR⟩ : ∃ R, R = tdr n S tb.cu tb.ot a1 0 false := ⟨_, rfl⟩
      have hR2 : R = (if d.is = false then (0, false, d.at', d.ov) else if e2.is = false then (0, false, e2.at', e2.ov) else (if (e2.x : Int) < tb.cu d.x then (d.x : Int) else tb.ot d.x, true, e2.at', e2.ov)) := by rw [hR, tdr, ← hd, ← he]
      have HFR := Lib.hid (fun (t : ByteArray) => tdr_front (t := t) (cu := tb.cu) (ot := tb.ot) (show 0 < n by omega) (show 0 < S by omega) hd he)
      obtain ⟨p, is, at', ov⟩ := R
      have hA : (is = (d.is && e2.is) ∧ at' = e2.at' ∧ ov = e2.ov) ∧ (d.is = false → p = 0) ∧ (e2.is = false → p = 0) ∧ (d.is = true → e2.is = true → p = if (e2.x : Int) < tb.cu d.x then (d.x : Int) else tb.ot d.x) := by
        cases h1 : d.is with
        | false =>
          have h2 := hno h1
          rw [h1, if_pos rfl, Prod.mk.injEq, Prod.mk.injEq, Prod.mk.injEq] at hR2
          obtain ⟨q1, q2, q3, q4⟩ := hR2
          rw [h1] at hdo
          rw [q1, q2, q3, q4, h2, hdo]
          exact ⟨⟨rfl, rfl, rfl⟩, fun _ => rfl, fun _ => rfl, fun h => by cases h⟩
        | true =>
          rw [h1, if_neg (by decide)] at hR2
          cases h2 : e2.is with
          | false =>
            rw [h2, if_pos rfl, Prod.mk.injEq, Prod.mk.injEq, Prod.mk.injEq] at hR2
            obtain ⟨q1, q2, q3, q4⟩ := hR2
            rw [q1, q2, q3, q4]
            exact ⟨⟨rfl, rfl, rfl⟩, fun _ => rfl, fun _ => rfl, fun _ h => by cases h⟩
          | true =>
            rw [h2, if_neg (by decide), Prod.mk.injEq, Prod.mk.injEq, Prod.mk.injEq] at hR2
            obtain ⟨q1, q2, q3, q4⟩ := hR2
            rw [q2, q3, q4]
            exact ⟨⟨rfl, rfl, rfl⟩, (fun h => by cases h), (fun h => by cases h), fun _ _ => q1⟩
      obtain ⟨⟨his, hat, hov⟩, hp0, hp1, hpp⟩ := hA
      rw [his, hat, hov] at hR
      have HT1 := Lib.hid (fun (W : World) (g gc go b : Nat) (h : Tb W g gc go n (S : Int) tb.cu tb.ot) (hc : Cp W b a1 0 false) (hne : g ≠ b ∧ gc ≠ b ∧ go ≠ b) => tdraw S b 0 a1 false h hn hS1 hc hne (by omega) (by omega) hbt p (d.is && e2.is) e2.at' e2.ov hR.symm)
      have HPK := Lib.hid (fun (W : World) (g gc go : Nat) (h : Tb W g gc go n (S : Int) tb.cu tb.ot) (h1 : d.is = true) (h2 : e2.is = true) => pick1 d.x (e2.x : Int) h (by omega) (hdx h1) hn.2 (by omega) (by have := hex h2; omega) p (hpp h1 h2))
      have HPP := Lib.hid hpp
      have DX := Lib.hid hdx
      have EX := Lib.hid hex
      have HT2 := Lib.hid (fun (W : World) (g gc go b : Nat) (t : ByteArray) (h : Tb W g gc go n (S : Int) tb.cu tb.ot) (hc : Cp W b t 0 false) (hne : g ≠ b ∧ gc ≠ b ∧ go ≠ b) (ht : isB t = true) (hl : t.size ≤ 4294967296) (o : Bool) (hR3 : tdr n S tb.cu tb.ot t 0 false = (p, true, e2.at', o)) => tdraw S b 0 t false h hn hS1 hc hne (by omega) hl (isB_bits ht) p true e2.at' o hR3)
      have HB1 := Lib.hid HZ0.out.symm
      have HB2 := Lib.hid HZ1.out.symm
      clear hpp his hat hov hR2 hno HZ0 HZ1
      clear hR hz hall hP hO hl hnn hlen htb hS hd he hbt is at' ov hdx hex hdo
      go_enter Try.func8, Try.ntmps8
      go_wp2_with fail
      refine (HI0.out _).mono ?_; rintro e w' ⟨rfl, rfl⟩
      go_wp2_with fail
      refine (HI1.out _).mono ?_; rintro e w' ⟨rfl, rfl⟩
      go_wp2_with fail
      refine (AL.awake _).mono ?_; rintro e w5 ⟨rfl, hb⟩
      have K := Lib.hid hb
      have HS2 := Lib.hid (HS.out.nx hb)
      clear hb HS
      go_wp2_with fail
      refine (HN.out _ HS2.out).mono ?_; rintro e w6 ⟨g, gc, go, rfl, hT, -, hb⟩
      have HT := Lib.hid hT
      have hg0 : g < w6.heap.size ∧ gc < w6.heap.size ∧ go < w6.heap.size := ⟨hT.tb.lt, hT.cb.lt, hT.ob.lt⟩
      replace K := Lib.hid (Kp.nx K.out hb)
      clear HN HS2 hT hb
      go_wp2_with fail
      refine (HC1.out _).mono ?_; rintro e w7 ⟨rfl, hc1, hb⟩
      have kz := K.out.size
      have C1 := Lib.hid hc1
      replace HT := Lib.hid (HT.out.nx hb)
      replace K := Lib.hid (Kp.nx K.out hb)
      have hlt7 := hc1.lt
      obtain ⟨b1, hb1⟩ : ∃ b, w6.heap.size = b := ⟨_, rfl⟩
      rw [hb1] at C1 hg0 hlt7 kz
      simp only [hb1]
      clear hb1 hc1 hb HC1
      go_wp2_with fail
      refine (copy1 b1 a1 _ C1.out).mono ?_; rintro e w8 ⟨rfl, hc2, hb⟩
      have C2 := Lib.hid hc2
      replace C1 := Lib.hid (C1.out.nx hb)
      replace HT := Lib.hid (HT.out.nx hb)
      replace K := Lib.hid (Kp.nx K.out hb)
      have hlt8 := hc2.lt
      obtain ⟨b2, hb2⟩ : ∃ b, w7.heap.size = b := ⟨_, rfl⟩
      rw [hb2] at C2 hlt7 hlt8
      simp only [hb2]
      clear hb2 hc2 hb
      go_wp2_with fail
      refine (HT1.out _ _ _ _ b1 HT.out C1.out (by omega)).mono ?_; rintro e w9 ⟨rfl, hc1, hgr⟩
      replace C1 := Lib.hid hc1
      replace C2 := Lib.hid (C2.out.kept hgr (by simp; omega))
      replace HT := Lib.hid (HT.out.kept hgr (by omega) (by omega) (by omega))
      replace K := Lib.hid (show Kp w w9 from Kp.grown K.out hgr (fun k e => by cases e; omega))
      clear hc1 hgr HT1
      go_wp2_with fail
      refine (HD1.out b2 _ C2.out).mono ?_; rintro e w10 ⟨rfl, hc2, hgr⟩
      replace C2 := Lib.hid hc2
      replace C1 := Lib.hid (C1.out.kept hgr (by simp; omega))
      replace HT := Lib.hid (HT.out.kept hgr (by omega) (by omega) (by omega))
      replace K := Lib.hid (show Kp w w10 from Kp.grown K.out hgr (fun k e => by cases e; omega))
      clear hc2 hgr HD1
      go_wp2_with fail
      refine (sum1 HT.out).mono ?_; rintro e w' ⟨rfl, rfl⟩
      go_wp2_with fail
      refine (HD2.out b2 _ C2.out).mono ?_; rintro e w11 ⟨rfl, hc2, hgr⟩
      replace C2 := Lib.hid hc2
      replace C1 := Lib.hid (C1.out.kept hgr (by simp; omega))
      replace HT := Lib.hid (HT.out.kept hgr (by omega) (by omega) (by omega))
      replace K := Lib.hid (show Kp w w11 from Kp.grown K.out hgr (fun k e => by cases e; omega))
      clear hc2 hgr HD2
      have HG11 := Lib.hid (show b1 < w11.heap.size ∧ b2 < w11.heap.size ∧ g < w11.heap.size ∧ gc < w11.heap.size ∧ go < w11.heap.size ∧ w.heap.size ≤ w11.heap.size from ⟨C1.out.lt, C2.out.lt, HT.out.tb.lt, HT.out.cb.lt, HT.out.ob.lt, K.out.size⟩)
      have hat0 : ¬ ((e2.at' : Int) < 0) := by omega
      have hat1 : ¬ ((a1.size : Int) < (e2.at' : Int)) := by omega
      obtain ⟨dx, d1, da, dov⟩ := d
      obtain ⟨ex, e1, ea, eov⟩ := e2
      simp only at hat0 hat1 hda hea heo hp0 hp1 HPK HPP HT2 C1 C2 HFR ⊢
      cases d1
      · obtain rfl := hp0 rfl
        clear heo hp0 hp1 HPK HPP HT2 HFR
        go_wp2_with fail
        refine (BL.at1 _ _ _ _ _ C1.out).mono ?_; rintro e w' ⟨rfl, rfl⟩
        go_wp2_with fail
        refine (BL.at1 _ _ _ _ _ C2.out).mono ?_; rintro e w' ⟨rfl, rfl⟩
        go_wp2_with fail
        refine (BL.over1 _ _ _ _ _ C1.out).mono ?_; rintro e w' ⟨rfl, rfl⟩
        go_wp2_with fail
        refine (BL.over1 _ _ _ _ _ C2.out).mono ?_; rintro e w' ⟨rfl, rfl⟩
        go_wp2_with fail
        refine (BL.at1 _ _ _ _ _ C1.out).mono ?_; rintro e w' ⟨rfl, rfl⟩
        go_wp2_with fail
        refine (BL.at1 _ _ _ _ _ C1.out).mono ?_; rintro e w' ⟨rfl, rfl⟩
        go_wp2_with fail
        go_ret
        exact ⟨rfl, K.out⟩
      · cases e1
        · obtain rfl := hp1 rfl
          clear heo hp0 hp1 HPK HPP HT2 HFR
          go_wp2_with fail
          refine (BL.at1 _ _ _ _ _ C1.out).mono ?_; rintro e w' ⟨rfl, rfl⟩
          go_wp2_with fail
          refine (BL.at1 _ _ _ _ _ C2.out).mono ?_; rintro e w' ⟨rfl, rfl⟩
          go_wp2_with fail
          refine (BL.over1 _ _ _ _ _ C1.out).mono ?_; rintro e w' ⟨rfl, rfl⟩
          go_wp2_with fail
          refine (BL.over1 _ _ _ _ _ C2.out).mono ?_; rintro e w' ⟨rfl, rfl⟩
          go_wp2_with fail
          refine (BL.at1 _ _ _ _ _ C1.out).mono ?_; rintro e w' ⟨rfl, rfl⟩
          go_wp2_with fail
          refine (BL.at1 _ _ _ _ _ C1.out).mono ?_; rintro e w' ⟨rfl, rfl⟩
          go_wp2_with fail
          go_ret
          exact ⟨rfl, K.out⟩
        · obtain rfl : eov = false := heo rfl
          clear heo hp0 hp1
          have PK := Lib.hid (HPK.out _ _ _ _ HT.out rfl rfl)
          have hdx4 : dx ≤ 64 := by have := DX.out rfl; simp only at this; omega
          have hex4 : ex ≤ 67108864 := by have := EX.out rfl; simp only at this; omega
          have hw3 : IntKind.i64.wrap (dx : Int) = (dx : Int) := by rw [IntKind.wrap_i64]; omega
          have hw4 : IntKind.i64.wrap (ex : Int) = (ex : Int) := by rw [IntKind.wrap_i64]; omega
          have hsum : (a1.extract 0 ea).size + a2.size ≤ 1024 := by rw [ByteArray.size_extract]; omega
          have hts : (a1.extract 0 ea ++ a2).size = ea + a2.size := by rw [ByteArray.size_append, ByteArray.size_extract]; omega
          have hti : isB (a1.extract 0 ea ++ a2) = true := isB_cat HB1.out HB2.out (by omega)
          have HN3 := Lib.hid (fun w1 => new1_ok (a1.extract 0 ea ++ a2) w1 (by omega) hti)
          have HR3 := Lib.hid (show tdr n S tb.cu tb.ot (a1.extract 0 ea ++ a2) 0 false = (p, true, ea, false) by
            have h9 := HFR.out (a1.extract 0 ea ++ a2) rfl rfl (by omega) (fun i hi => bit_front (by omega) hi)
            rw [h9, ← HPP.out rfl rfl])
          have HTI := Lib.hid hti
          have HTS := Lib.hid hts
          clear HPK HPP HFR hti hts
          go_wp2_with fail
          refine (BL.at1 _ _ _ _ _ C1.out).mono ?_; rintro e w' ⟨rfl, rfl⟩
          go_wp2_with fail
          refine (BL.at1 _ _ _ _ _ C2.out).mono ?_; rintro e w' ⟨rfl, rfl⟩
          go_wp2_with fail
          refine (BL.over1 _ _ _ _ _ C1.out).mono ?_; rintro e w' ⟨rfl, rfl⟩
          go_wp2_with fail
          refine (BL.over1 _ _ _ _ _ C2.out).mono ?_; rintro e w' ⟨rfl, rfl⟩
          go_wp2_with fail
          refine (BL.at1 _ _ _ _ _ C1.out).mono ?_; rintro e w' ⟨rfl, rfl⟩
          go_wp2_with fail
          refine (BL.at1 _ _ _ _ _ C1.out).mono ?_; rintro e w' ⟨rfl, rfl⟩
          go_wp2_with fail
          refine PK.out.mono ?_; rintro e w' ⟨rfl, rfl⟩
          clear PK
          go_wp2_with fail
          refine (BL.at1 _ _ _ _ _ C1.out).mono ?_; rintro e w' ⟨rfl, rfl⟩
          go_wp2_with fail
          refine (HN3.out _).mono ?_; rintro e w12 ⟨rfl, hc3, hb⟩
          have C3 := Lib.hid hc3
          replace C1 := Lib.hid (C1.out.nx hb)
          replace HT := Lib.hid (HT.out.nx hb)
          replace K := Lib.hid (Kp.nx K.out hb)
          have gT := HT.out.tb.lt
          have hb11 := hb.size
          have hg11 := HG11.out
          obtain ⟨b3, hb3⟩ : ∃ b, w11.heap.size = b := ⟨_, rfl⟩
          rw [hb3] at C3 hg11
          simp only [hb3]
          have hK3 : w.heap.size ≤ b3 := by omega
          clear hb3 hc3 hb HN3 C2
          go_wp2_with fail
          refine (HT2.out _ _ _ _ b3 _ HT.out C3.out (by omega) HTI.out (by have := HTS.out; omega) false HR3.out).mono ?_; rintro e w13 ⟨rfl, hc3, hgr⟩
          replace C3 := Lib.hid hc3
          replace C1 := Lib.hid (C1.out.kept hgr (by simp; omega))
          replace K := Lib.hid (show Kp w w13 from Kp.grown K.out hgr (fun k e => by cases e; omega))
          clear hc3 hgr HT2 HT
          go_wp2_with fail
          refine (BL.at1 _ _ _ _ _ C3.out).mono ?_; rintro e w' ⟨rfl, rfl⟩
          go_wp2_with fail
          refine (BL.at1 _ _ _ _ _ C1.out).mono ?_; rintro e w' ⟨rfl, rfl⟩
          go_wp2_with fail
          go_ret
          exact ⟨rfl, K.out⟩
    · have HN := Lib.hid (fun (W : World) (h : Ri W a0 ws) => new_no ws a0 cap0 W h hlen z hz hzz)
      have hzb : (z == 0) = false := by rw [beq_eq_false_iff_ne]; exact hzz
      clear hz hzz hl HZ0 HZ1
      go_enter Try.func8, Try.ntmps8
      go_wp2_with fail
      refine (HI0.out _).mono ?_; rintro e w' ⟨rfl, rfl⟩
      go_wp2_with fail
      refine (HI1.out _).mono ?_; rintro e w' ⟨rfl, rfl⟩
      go_wp2_with fail
      refine (AL.awake _).mono ?_; rintro e w5 ⟨rfl, hb⟩
      have K := Lib.hid hb
      have HS2 := Lib.hid (HS.out.nx hb)
      clear hb HS
      go_wp2_with fail
      refine (HN.out _ HS2.out).mono ?_; rintro e w' ⟨rfl, rfl⟩
      clear HN HS2
      go_wp2_with fail
      go_ret
      exact ⟨rfl, K.out⟩

/-! ### THE ROW's STEP: WRITTEN OUT: LEAVE IT -/
set_option maxRecDepth 100000 in
theorem lifted (os : Os) (started : os.Started) (H : Type) (enc : TypeId × Value → H) :
    ReturnsInHanded {} Try.checked os 8 .any (Rows.aliasTwoSpec.pre6 enc Try.prog Try.f8 Rows.aliasTwoRow.domain false) (Rows.aliasTwoSpec.post enc Try.prog Try.f8 false true false false) := by
  refine returnsInHanded_of_change (C := Try.checked) own started (by kernel_rfl) Try.func8
    (ChangeSpec.witness6 (enc := enc) (C := Try.checked) false ⟨#[], #[.slice none 0 0, .string ByteArray.empty, .string ByteArray.empty], []⟩ 8 (by kernel_rfl) (by kernel_rfl) (by kernel_rfl) (by kernel_rfl)) ?_
  intro W base args ds gs before hval0 hW hcnd _
  have hval : ∀ (j : Nat) t v, Try.f8.params[j]? = some t → args[j]? = some v → Value.okWide Try.prog W .any base t v := hval0
  have hW' := hW
  obtain ⟨p, q, hA0, hV, rfl, hfz, hnd⟩ := hW
  have hA : DataW.TrodAll enc Try.prog W 0 (fun _ => true) true Try.f8.params.toList args.toList ds p := hA0
  rw [Try.params8] at hA hval
  obtain ⟨v0, vs0, d0, ds0, p0, q0, hargs, rfl, rfl, h0, r0⟩ := trodAll_cons hA
  obtain ⟨v1, vs1, d1, ds1, p1, q1, rfl, rfl, rfl, h1, r1⟩ := trodAll_cons r0
  obtain ⟨v2, vs2, d2, ds2, p2, q2, rfl, rfl, rfl, h2, r2⟩ := trodAll_cons r1
  obtain ⟨rfl, rfl, rfl⟩ := trodAll_nil r2
  obtain rfl : args = #[v0, v1, v2] := by cases args; simp_all
  obtain ⟨rfl, rfl⟩ := trodVars_none hV
  obtain ⟨a0, len0, cap0, rfl⟩ := okWide_slice Try.underlying22 (hval 0 22 v0 rfl rfl)
  have k0 := h0
  have lt0 : ∀ x ∈ p0, x.block < W.heap.size := by obtain ⟨m, hm⟩ := k0; exact DataW.trod_lt m _ _ _ hm
  obtain ⟨z0, w0⟩ : ∃ zs, IsRow .i64 W a0 len0 cap0 zs := by
    obtain ⟨fuel, hf⟩ := h0
    rcases open_ints Try.underlying22 Try.underlying2 (by kernel_rfl) hf with ⟨hcs, _⟩ | ⟨x, l, c, zs, hcs, _, hl, hm, hz, _, hcell, hwz⟩
    · simp [Value.cells] at hcs
      obtain ⟨rfl, rfl, rfl⟩ := hcs
      exact ⟨[], .inl ⟨rfl, rfl, rfl, rfl⟩⟩
    · simp [Value.cells] at hcs
      obtain ⟨rfl, rfl, rfl⟩ := hcs
      exact ⟨zs, .inr ⟨_, rfl, hl, hm, by simpa using hz, hcell, hwz⟩⟩
  obtain ⟨a1, rfl, rfl, rfl, w1⟩ := open_string Try.underlying9 (hval 1 9 v1 rfl rfl) h1
  obtain ⟨a2, rfl, rfl, rfl, w2⟩ := open_string Try.underlying9 (hval 2 9 v2 rfl rfl) h2
  clear hA0 hval0
  refine (walk a0 len0 cap0 z0 a1 a2 W w0 w1 w2).mono fun e W' ⟨he, bel⟩ => ?_
  subst he
  exact ⟨_, rfl, _, _, _, [], _, [], hW', trodAll_mk1 (shut_bool Try.underlying4 _), (trodAll_cons_mk (Below.trod laidOut (by kernel_rfl) (of_decide_eq_true (by kernel_rfl)) k0 bel lt0) (trodAll_cons_mk (shut_string Try.underlying9 w1) (trodAll_cons_mk (shut_string Try.underlying9 w2) trodAll_mk0))), rfl, bel.frame _, fun h => by cases h⟩

theorem over : Rows.aliasTwoRow.holds Try.pinned (OpenSpec.ofChange Rows.aliasTwoSpec) :=
  OpenClaim.holds_of_wide 8 Try.f8 rfl rfl rfl rfl rfl rfl rfl ⟨rfl, rfl, rfl, rfl, rfl⟩ rfl rfl rfl rfl rfl (by kernel_rfl) Try.func8 (by kernel_rfl)
    (of_decide_eq_true (by kernel_rfl)) (by unfold Func.isWrapper; first | (rw [if_pos (by decide +kernel)]; kernel_rfl) | (rw [if_neg (by decide +kernel)]; exact ⟨rfl, rfl⟩))
    (fun os started H enc _ => lifted os started H enc)

/-- ████ THE STATEMENT ████ -/
theorem proved : Rows.AliasTwoSaid := over
#print axioms proved
end Go.Proofs.Yticickjnlkbkoaa.aliasTwo
