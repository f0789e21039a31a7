/- The document's answer: a quotient by places (tombolaref06.Div). At most 1000 limbs each. -/
import Derived.Test.YticickjnlkbkoaaGreatRatC
import Derived.Test.YticickjnlkbkoaaGreatMQ
import Derived.Deep.RegionHeld3
namespace Go.Proofs.RA
open Go.RowKit
open Go.Proofs
open Go.Proofs.NP
open Go.Proofs.SL
open Go.Proofs.NR (Fits GivesE)
set_option linter.unusedVariables false
set_option maxRecDepth 20000
set_option linter.unusedSimpArgs false
variable {w : World} {a b : Option Addr} {ca cb l k : Nat} {xs ys zs : List Nat}
theorem up_room (Q i : Nat) {os : List Nat} (hd : Dig 65536 os) (hv : val 65536 os = Q * 2 ^ (i + 1)) :
    os[i / 16]?.getD 0 + 2 ^ (i % 16) < 65536 ∧ 2 ^ (i % 16) ≤ 32768 := by
  have hr : 2 ^ (i % 16) ≤ 32768 := RN.two_le _ (by omega)
  refine ⟨?_, hr⟩
  obtain ⟨r, hr'⟩ : ∃ r, r = i % 16 := ⟨_, rfl⟩
  have e : 2 ^ (i + 1) = 65536 ^ (i / 16) * 2 ^ (r + 1) := by
    rw [show (65536 : Nat) = 2 ^ 16 by decide, ← Nat.pow_mul, ← Nat.pow_add]; congr 1; omega
  have e2 : 65536 = 2 ^ (15 - r) * 2 ^ (r + 1) := by
    rw [← Nat.pow_add, show 15 - r + (r + 1) = 16 by omega]
  have h2 : os[i / 16]?.getD 0 = Q % 2 ^ (15 - r) * 2 ^ (r + 1) := by
    rw [getD_dg 65536 (by decide) hd, hv, dg, e, Nat.mul_left_comm, Nat.mul_div_cancel_left _ (Nat.pow_pos (by decide))]
    rw [show Q * 2 ^ (r + 1) % 65536 = Q * 2 ^ (r + 1) % (2 ^ (15 - r) * 2 ^ (r + 1)) by rw [← e2], Nat.mul_mod_mul_right]
  have h3 : Q % 2 ^ (15 - r) + 1 ≤ 2 ^ (15 - r) := Nat.mod_lt _ (Nat.two_pow_pos _)
  have h4 := Nat.mul_le_mul_right (2 ^ (r + 1)) h3
  rw [← e2, Nat.add_mul, Nat.one_mul, ← h2] at h4
  have h5 : 2 ^ (r + 1) = 2 * 2 ^ r := by rw [Nat.pow_succ]; omega
  have h6 := Nat.two_pow_pos r
  rw [← hr'] 
  omega
theorem up_set (Q i : Nat) {os : List Nat} (hd : Dig 65536 os) (hv : val 65536 os = Q * 2 ^ (i + 1)) (hk : i / 16 < os.length) :
    Dig 65536 (os.set (i / 16) (os[i / 16]?.getD 0 + 2 ^ (i % 16))) ∧ val 65536 (os.set (i / 16) (os[i / 16]?.getD 0 + 2 ^ (i % 16))) = (Q + Q + 1) * 2 ^ i := by
  have ⟨r1, r2⟩ := up_room Q i hd hv
  refine ⟨hd.set _ _ r1, ?_⟩
  have s := val_set 65536 os (i / 16) (os[i / 16]?.getD 0 + 2 ^ (i % 16)) hk
  have e : 2 ^ i = 2 ^ (i % 16) * 65536 ^ (i / 16) := by
    rw [show (65536 : Nat) = 2 ^ 16 by decide, ← Nat.pow_mul, ← Nat.pow_add]; congr 1; omega
  rw [Nat.add_mul, ← e, hv] at s
  have e3 : Q * 2 ^ (i + 1) = (Q + Q) * 2 ^ i := by rw [Nat.pow_succ, Nat.add_mul, Nat.mul_comm (2 ^ i) 2, ← Nat.mul_assoc, ← Nat.add_mul]; congr 1; omega
  rw [Nat.add_mul (Q + Q), Nat.one_mul]
  omega
/-- what Div has at a place -/
structure D6 (w1 wr : World) (a b : Option Addr) (ca cb : Nat) (xs ys : List Nat) (G N R Qv : Nat) (pr : Option Addr) (cr : Nat) (rl os : List Nat) : Prop where
  sx0 : Rd w1 a ca xs
  sy0 : Rd w1 b cb ys
  er : rl = L R
  hd : Dig 65536 os
  hv : val 65536 os = Qv
  sr : Fr w1.heap.size wr pr cr rl
  ow : SL.Own 66 w1.heap.size wr (some ⟨G, 0, none⟩) N os
  bl : Below w1.heap.size w1 wr
variable {w1 wr w' : World} {G N R Qv cr : Nat} {pr : Option Addr} {rl os : List Nat}
theorem D6.sx (E : D6 w1 wr a b ca cb xs ys G N R Qv pr cr rl os) : Rd wr a ca xs := E.sx0.nx E.bl
theorem D6.sy (E : D6 w1 wr a b ca cb xs ys G N R Qv pr cr rl os) : Rd wr b cb ys := E.sy0.nx E.bl
theorem D6.nx (E : D6 w1 wr a b ca cb xs ys G N R Qv pr cr rl os) (h : Kp wr w') : D6 w1 w' a b ca cb xs ys G N R Qv pr cr rl os :=
  ⟨E.sx0, E.sy0, E.er, E.hd, E.hv, E.sr.nx h, E.ow.nx h, E.bl.trans (h.below.mono E.bl.size)⟩
theorem D6.setR (E : D6 w1 wr a b ca cb xs ys G N R Qv pr cr rl os) {p : Option Addr} {c R' : Nat} {rs : List Nat} (h : Kp wr w') (hr : rs = L R') (hs : SL.Own 66 wr.heap.size w' p c rs) : D6 w1 w' a b ca cb xs ys G N R' Qv p c rs os :=
  have F := E.nx h
  ⟨F.sx0, F.sy0, hr, E.hd, E.hv, Fr.of hs E.bl.size, F.ow, F.bl⟩
theorem D6.store (E : D6 w1 wr a b ca cb xs ys G N R Qv pr cr rl os) {p : Option Addr} {c R' Qv' j x : Nat} {rs : List Nat} (h : Kp wr w') (ho : SL.Own 66 wr.heap.size w' p c rs) (hr : rs = L R') (hx : x < 65536) (hd : Dig 65536 (os.set j x)) (hv : val 65536 (os.set j x) = Qv') :
    D6 w1 (w'.setCell ⟨G, j, none⟩ (.int .u64 (x : Int))) a b ca cb xs ys G N R' Qv' p c rs (os.set j x) := by
  have ow7 := E.ow.nx h
  have st := ow7.store j x (by omega)
  have hg := E.ow.ge
  refine ⟨E.sx0, E.sy0, hr, hd, hv, ?_, st.1, (E.bl.trans (h.below.mono E.bl.size)).grown st.2 (by have := E.bl.size; have := h.size; omega) (fun k e => by cases e; exact hg.1)⟩
  refine Fr.of (ho.kept st.2 ?_) E.bl.size
  intro g hg' e
  obtain rfl : g = G := by simpa using e
  rcases ho.cases with ⟨rfl, _⟩ | ⟨g', h1, h2, _⟩
  · simp at hg'
  · rw [h1] at hg'
    simp at hg'
    try omega
theorem D6.vr (E : D6 w1 wr a b ca cb xs ys G N R Qv pr cr rl os) : V rl = R := by rw [E.er, V_L]
theorem small_of {X n : Nat} {z : Bool} (hz : z = RN.smB X) (hn : n = RN.smN X) (h : z = true) : X < 18446744073709551616 ∧ n = X := by
  have hX : X < 18446744073709551616 := by unfold RN.smB at hz; rw [h] at hz; simpa using hz.symm
  exact ⟨hX, by rw [hn, RN.smN, if_pos hX]⟩
/-- a quotient, and what is left, in new blocks -/
def GivesD (w : World) (qs rs : List Nat) (e : Ending) (w' : World) : Prop :=
  ∃ p cp r cr, e = .returned (.tuple #[.slice p qs.length cp, .slice r rs.length cr]) ∧ Fr w.heap.size w' p cp qs ∧ Fr w.heap.size w' r cr rs ∧ Kp w w'
set_option maxHeartbeats 2000000 in
theorem div6_small (hx : Rd w a ca xs) (hy : Rd w b cb ys) (lx : xs.length = l) (ly : ys.length = k) (h : l ≤ 1000) (h' : k ≤ 1000) (n1 n2 : Nat) (e1 : V xs = n1) (e2 : V ys = n2) (hX : n1 < 18446744073709551616) (hY : n2 < 18446744073709551616) (h0 : 0 < n2) (qs rs : List Nat) (hq : qs = L (n1 / n2)) (hr : rs = L (n1 % n2)) :
    Calls Tryz.prog 40 #[.slice a l ca, .slice b k cb] w (GivesD w qs rs) := by
  have HS1 := Lib.hid (RN.small_ok hx lx (by omega) n1 e1.symm hX)
  have HS2 := Lib.hid (fun (w1 : World) (hy : Rd w1 b cb ys) => RN.small_ok hy ly (by omega) n2 e2.symm hY)
  have hy0 : ¬ ((n2 : Int) = 0) := by omega
  have hpos : (0 : Int) < (n2 : Int) := by omega
  have hq1 := Nat.lt_of_le_of_lt (Nat.div_le_self n1 n2) hX
  have hr1 := Nat.lt_of_le_of_lt (Nat.mod_le n1 n2) hX
  have hwq : IntKind.u64.wrap ((n1 : Int) / (n2 : Int)) = ((n1 / n2 : Nat) : Int) := by rw [← Int.natCast_ediv]; exact W.wrapN _ hq1
  have HO1 := Lib.hid (fun w1 => show Calls Tryz.prog 60 #[.int .u64 (IntKind.u64.wrap ((n1 : Int) / (n2 : Int)))] w1 _ from hwq ▸ RN.of (n1 / n2) w1 hq1 hq)
  clear hwq
  have HO2 := Lib.hid (fun w1 => RN.of (n1 % n2) w1 hr1 hr)
  have HY := Lib.hid hy
  clear hx hy lx ly hq1 hr1 e1 e2 hq hr
  go_enter Tryz.func40, Tryz.ntmps40
  go_wp2_with fail
  refine HS1.out.mono ?_; rintro e w3 ⟨rfl, hb3⟩
  have HS3 := Lib.hid (HS2.out w3 (HY.out.nx hb3))
  have HK := Lib.hid hb3
  clear HS1 HS2 hb3 HY
  go_wp2_with fail
  refine HS3.out.mono ?_; rintro e w4 ⟨rfl, hb4⟩
  replace HK := Lib.hid (Kp.nx HK.out hb4)
  clear HS3 hb4
  go_wp2_with fail
  go_region_with (first | (go_at_call 60; refine (HO1.out _).mono ?_; rintro e w5 ⟨p5, c5, rfl, ho5, hb5⟩) | (go_at_call 60; refine (HO2.out _).mono ?_; rintro e w6 ⟨p6, c6, rfl, ho6, hb6⟩))
  all_goals
    have hs1 := HK.out.size
    have hs2 := hb5.size
    have hF := Lib.hid (show GivesD w qs rs (.returned (.tuple #[.slice p5 qs.length c5, .slice p6 rs.length c6])) _ from ⟨p5, c5, p6, c6, rfl, (Fr.of ho5 hs1).nx hb6, Fr.of ho6 (Nat.le_trans hs1 hs2), Kp.nx (Kp.nx HK.out.dr1 hb5) hb6⟩)
    clear HK ho5 ho6 hb5 hb6
    go_wp2_with fail
    go_ret2
    exact hF.out
set_option maxHeartbeats 8000000 in
theorem div6 (hx : Rd w a ca xs) (hy : Rd w b cb ys) (lx : xs.length = l) (ly : ys.length = k) (h : l ≤ 1000) (h' : k ≤ 1000) (h0 : 0 < V ys) (qs rs : List Nat) (hq : qs = L (V xs / V ys)) (hr : rs = L (V xs % V ys)) :
    Calls Tryz.prog 40 #[.slice a l ca, .slice b k cb] w (GivesD w qs rs) := by
  by_cases hsm : V xs < 18446744073709551616 ∧ V ys < 18446744073709551616
  · exact div6_small hx hy lx ly h h' (V xs) (V ys) rfl rfl hsm.1 hsm.2 h0 qs rs hq hr
  obtain ⟨i0, hi, hz0, hz1, hz2⟩ := info_parts NT.Tryz.info66
  obtain ⟨X, hX⟩ : ∃ X, X = V xs := ⟨_, rfl⟩
  obtain ⟨Y, hY⟩ : ∃ Y, Y = V ys := ⟨_, rfl⟩
  obtain ⟨M, hM1, hM2⟩ : ∃ M, 1000 ≤ M ∧ M ≤ 1000 := ⟨1000, Nat.le_refl _, Nat.le_refl _⟩
  have FX : Fits X M := by rw [hX]; exact Fits.of hx.ws (by omega)
  have FY : Fits Y M := by rw [hY]; exact Fits.of hy.ws (by omega)
  obtain ⟨n1, hn1⟩ : ∃ z, z = RN.smN X := ⟨_, rfl⟩
  obtain ⟨n2, hn2⟩ : ∃ z, z = RN.smN Y := ⟨_, rfl⟩
  obtain ⟨z1, hs1⟩ : ∃ z, z = RN.smB X := ⟨_, rfl⟩
  obtain ⟨z2, hs2⟩ : ∃ z, z = RN.smB Y := ⟨_, rfl⟩
  have HS1 := Lib.hid (RN.small2 hx lx (by omega) n1 z1 (by rw [← hX]; exact hn1) (by rw [← hX]; exact hs1))
  have HS2 := Lib.hid (fun (w1 : World) (hy : Rd w1 b cb ys) => RN.small2 hy ly (by omega) n2 z2 (by rw [← hY]; exact hn2) (by rw [← hY]; exact hs2))
  obtain ⟨ds, hds⟩ : ∃ ds, ds = RN.D (V xs) := ⟨_, rfl⟩
  have hdl : ds.length ≤ 200000 := by have := RN.D_len hx.ws; rw [hds]; omega
  obtain ⟨B, hB⟩ : ∃ B, B = bitLen X := ⟨_, rfl⟩
  have hB1 : B ≤ 16 * ds.length := by
    rw [hB, bitLen_le_iff, Nat.pow_mul, hds, hX]; exact RN.Dlt _
  have HDg := Lib.hid (fun (w1 : World) (hx : Rd w1 a ca xs) => RN.digits' hx lx (by omega) hds)
  have HLn := Lib.hid (fun (w1 : World) (hx : Rd w1 a ca xs) => RN.len hx lx (by omega) B (by rw [hB, hX]))
  have HBt := Lib.hid (fun (w1 : World) (hx : Rd w1 a ca xs) (i : Nat) (hi : i ≤ 640000) (z : Bool) (hz : z = (X / 2 ^ i % 2 == 1)) => RN.bit hx lx (by omega) i (by omega) z (by rw [hz, hX]))
  have HAd := Lib.hid (fun (w1 : World) (p q : Option Addr) (c d : Nat) (us vs ws : List Nat) (h1 : Rd w1 p c us) (h2 : Rd w1 q d vs) (hl1 : us.length ≤ 10001) (hl2 : vs.length ≤ 10001) (hz : ws = L (V us + V vs)) => RN.add h1 h2 rfl rfl (by omega) (by omega) hz)
  have HCm := Lib.hid (fun (w1 : World) (p : Option Addr) (c : Nat) (us : List Nat) (h1 : Rd w1 p c us) (hy : Rd w1 b cb ys) (hl1 : us.length ≤ 10001) (z : Int) (hz : z = NT.cmpI (V us) Y) => RN.cmp h1 hy rfl ly (by omega) (by omega) z (by rw [hz, hY]))
  have HSu := Lib.hid (fun (w1 : World) (p : Option Addr) (c : Nat) (us vs : List Nat) (h1 : Rd w1 p c us) (hy : Rd w1 b cb ys) (hl1 : us.length ≤ 10001) (hz : vs = L (V us - Y)) (hle : Y ≤ V us) => RN.sub_ok (zs := vs) h1 hy rfl ly (by omega) (by omega) (hz.trans (by rw [hY])) (by rw [← hY]; exact hle))
  rw [← hX, ← hY] at hq hr hsm
  have HSM := Lib.hid hsm
  clear hsm
  rw [← hY] at h0
  have HX := Lib.hid hx
  have HY := Lib.hid hy
  have HQ := Lib.hid hq
  have HR := Lib.hid hr
  have HY0 := Lib.hid h0
  have HFX := Lib.hid FX
  have HFY := Lib.hid FY
  have HBB := Lib.hid hB
  have HBL := Lib.hid (show B ≤ 64000 by rw [hB]; have := LN.bitLen_fits FX; omega)
  have HN1 := Lib.hid hn1
  have HN2 := Lib.hid hn2
  have HZ1 := Lib.hid hs1
  have HZ2 := Lib.hid hs2
  have HT := Lib.hid (fun r => RN.two_le r)
  clear hx hy lx ly hq hr hX hY FX FY h0 hB hds hn1 hn2 hs1 hs2
  have hz : ¬ (z1 = true ∧ z2 = true) := fun hz => HSM.out ⟨(small_of HZ1.out HN1.out hz.1).1, (small_of HZ2.out HN2.out hz.2).1⟩
  clear HSM
  have hcs : (z1 = false ∧ z2 = false) ∨ (z1 = false ∧ z2 = true) ∨ (z1 = true ∧ z2 = false) := by revert hz; cases z1 <;> cases z2 <;> simp
  clear hz HN1 HN2 HZ1 HZ2
  go_enter Tryz.func40, Tryz.ntmps40
  go_wp2_with fail
  refine HS1.out.mono ?_; rintro e w3 ⟨rfl, hb3⟩
  have HS3 := Lib.hid (HS2.out w3 (HY.out.nx hb3))
  have HK := Lib.hid hb3
  clear HS1 HS2 hb3
  go_wp2_with fail
  refine HS3.out.mono ?_; rintro e w4 ⟨rfl, hb4⟩
  replace HK := Lib.hid (Kp.nx HK.out hb4)
  clear HS3 hb4
  have HX4 := Lib.hid (HX.out.nx HK.out)
  have HY4 := Lib.hid (HY.out.nx HK.out)
  have HD4 := Lib.hid (HDg.out w4 HX4.out)
  clear HX HY HDg
  rcases hcs with ⟨rfl, rfl⟩ | ⟨rfl, rfl⟩ | ⟨rfl, rfl⟩
  all_goals
    go_wp2_with fail
    refine HD4.out.mono ?_; rintro e w1 ⟨p, c, rfl, ho, hb⟩
    have HX1 := Lib.hid (HX4.out.nx hb)
    have HY1 := Lib.hid (HY4.out.nx hb)
    replace HK := Lib.hid (Kp.nx HK.out hb)
    clear HD4 HX4 HY4 ho hb
    obtain ⟨wm, hmk, hown0, hgr0⟩ := run_make_full (P := Tryz.prog) w1 w1.heap.size 44 66 i0 (.int .u64 0) 1 Tryz.underlying44 hi hz0 hz1 .i64 .i64 (ds.length + 1) (by rw [hz2]; omega) (by unfold maxLen; omega) (Nat.le_refl _)
    rw [Nat.mul_one, show (Value.int .u64 0).cells = #[Value.int .u64 0] from rfl, toList_madeCells_one] at hown0
    rw [show (((ds.length + 1 : Nat)) : Int) = (ds.length : Int) + 1 by omega] at hmk
    have ho0 : SL.Own 66 w1.heap.size wm (some ⟨w1.heap.size, 0, none⟩) (ds.length + 1) (List.replicate (ds.length + 1) 0) := ⟨Dig.zeros (by decide) _, by simpa [enc] using hown0⟩
    have hb0 : Below w1.heap.size w1 wm := (Below.refl _ _).grown hgr0 (Nat.le_refl _) (fun k hk => by cases hk)
    have G0 := Lib.hid (show D6 w1 wm a b ca cb xs ys w1.heap.size (ds.length + 1) 0 0 none 0 [] (List.replicate (ds.length + 1) 0) from ⟨HX1.out, HY1.out, rfl, Dig.zeros (by decide) _, val_zeros _ _, ⟨Rd.nil _, fun x hx => by cases hx⟩, ho0, hb0⟩)
    have HX2 := Lib.hid (HX1.out.nx hb0)
    clear hown0 hgr0 ho0
    have hEq := Lib.hid hmk
    have HB0 := Lib.hid hb0
    clear hmk hb0
    go_wp2_with (rw [hEq.out])
    refine (HLn.out wm HX2.out).mono ?_; rintro e w2 ⟨rfl, hb2⟩
    replace G0 := Lib.hid (G0.out.nx hb2)
    clear HLn HX1 HY1 HX2 hb2 HB0
    go_wp2_with fail
    go_loopw [11, 12] (fun s9 s10 wr => ∃ (k : Nat) (pr : Option Addr) (cr : Nat) (rl os : List Nat), s9 = .slice pr rl.length cr ∧ s10 = .int .i64 ((k : Int) - 1) ∧ k ≤ B ∧ os.length = ds.length + 1 ∧ Hid (D6 w1 wr a b ca cb xs ys w1.heap.size (ds.length + 1) (X / 2 ^ k % Y) (X / 2 ^ k / Y * 2 ^ k) pr cr rl os)) (fun _ s _ => (intOf s + 1).toNat)
    case atStart =>
      have e0 : X / 2 ^ B = 0 := Nat.div_eq_of_lt ((bitLen_le_iff X B).1 (by rw [HBB.out]; exact Nat.le_refl _))
      exact ⟨B, none, 0, [], List.replicate (ds.length + 1) 0, rfl, rfl, by omega, by rw [List.length_replicate], by rw [Hid, e0, Nat.zero_mod, Nat.zero_div, Nat.zero_mul]; exact G0.out⟩
    case round =>
      clear G0
      obtain ⟨k, pr, cr, rl, os, rfl, rfl, hk, hos, G⟩ := hrel
      cases k with
      | zero =>
        have E := G.out
        rw [Nat.pow_zero, Nat.div_one, Nat.mul_one] at E
        have er : rl = rs := by rw [E.er, HR.out]
        subst er
        have HJ := Lib.hid (RN.join' (zs := qs) E.ow.rd E.hd hos (by omega) (by have h1 : RN.U os = X / Y := E.hv; rw [HQ.out, h1]))
        have HE := Lib.hid (show Fr w1.heap.size wr pr cr rl ∧ Kp w wr ∧ w.heap.size ≤ w1.heap.size ∧ w1.heap.size ≤ wr.heap.size from ⟨E.sr, HK.out.trans (E.bl.mono HK.out.size), HK.out.size, E.bl.size⟩)
        obtain ⟨wo, rfl⟩ : ∃ wo : World, wo = wr := ⟨_, rfl⟩
        clear E G HQ HR
        go_wp2_with fail
        refine HJ.out.mono ?_; rintro e w5 ⟨p5, c5, rfl, ho5, hb5⟩
        have hf := Lib.hid (show GivesD w qs rl (.returned (.tuple #[.slice p5 qs.length c5, .slice pr rl.length cr])) w5 from ⟨_, _, _, _, rfl, Fr.of ho5 (Nat.le_trans HE.out.2.2.1 HE.out.2.2.2), (HE.out.1.nx hb5).mono HE.out.2.2.1, Kp.nx HE.out.2.1 hb5⟩)
        clear HJ HE ho5 hb5
        go_wp2_with fail
        go_ret2
        exact hf.out
      | succ i =>
        rw [show ((i + 1 : Nat) : Int) - 1 = (i : Int) by omega]
        obtain ⟨be, hbe⟩ : ∃ be, be = X / 2 ^ i % 2 := ⟨_, rfl⟩
        have hbe1 : be ≤ 1 := by omega
        obtain ⟨Z, hZ⟩ : ∃ Z, Z = X / 2 ^ (i + 1) := ⟨_, rfl⟩
        have hhalf := QR.half X i
        rw [← hbe, ← hZ] at hhalf
        have hbd := QR.bitdiv Z be Y HY0.out hbe1
        rw [← hhalf] at hbd
        rw [← hZ] at G
        obtain ⟨q0, hq0⟩ : ∃ q, q = Z / Y := ⟨_, rfl⟩
        obtain ⟨r0, hr0⟩ : ∃ r, r = Z % Y := ⟨_, rfl⟩
        rw [← hq0, ← hr0] at hbd G
        have hi16 : i / 16 < os.length := by omega
        have hrY : r0 < Y := by rw [hr0]; exact Nat.mod_lt _ HY0.out
        have lr : rl.length ≤ M := by rw [G.out.er]; exact Fits.len (HFY.out.mono (Nat.le_of_lt hrY))
        have fr1 : ∀ be, be ≤ 1 → Fits (r0 + r0 + be) (M + 1) := by
          intro be hb
          have h2 := HFY.out
          unfold Fits at h2 ⊢
          rw [Nat.pow_succ]
          generalize (18446744073709551616 : Nat) ^ M = B at h2 ⊢
          omega
        obtain ⟨r1, hr1⟩ : ∃ z, z = L (r0 + r0) := ⟨_, rfl⟩
        have lr1 : r1.length ≤ M + 1 := by rw [hr1]; exact (fr1 0 (by omega)).len
        have CA := Lib.hid (HAd.out wr pr pr cr cr rl rl r1 G.out.sr.rd G.out.sr.rd (by omega) (by omega) (by rw [hr1, G.out.vr]))
        have R1E := Lib.hid hr1
        have HBD := Lib.hid hbd
        have FR1 := Lib.hid fr1
        have HBE := Lib.hid hbe
        have HRY := Lib.hid hrY
        obtain ⟨wo, rfl⟩ : ∃ wo : World, wo = wr := ⟨_, rfl⟩
        have hdec : (r0 + r0 + be < Y ∨ Y ≤ r0 + r0 + be) ∧ (be = 0 ∨ be = 1) := ⟨Nat.lt_or_ge _ _, by omega⟩
        clear hbe hZ hhalf hbd hq0 hr0 fr1 hr1 hrY hbe1
        obtain ⟨hge, hb⟩ := hdec
        go_wp2_with fail
        refine (CA.out).mono ?_; rintro e w3 ⟨p3, c3, rfl, ho3, hb3⟩
        replace G := Lib.hid (G.out.setR hb3 R1E.out ho3)
        clear CA ho3 hb3
        rcases hb with rfl | rfl
        · have HBI := Lib.hid (HBt.out _ G.out.sx i (by have := HBL.out; omega) false (by rw [← HBE.out]; rfl))
          go_wp2_with fail
          refine (HBI.out).mono ?_; rintro e w4 ⟨rfl, hb4⟩
          replace G := Lib.hid (G.out.nx hb4)
          clear HBI hb4
          rw [Nat.add_zero] at hge HBD
          obtain ⟨r2, hr2⟩ : ∃ z, z = L (r0 + r0) := ⟨_, rfl⟩
          obtain rfl : r1 = r2 := by rw [hr2]; exact R1E.out
          have lr2 : r1.length ≤ M + 1 := lr1
          obtain ⟨T, hT⟩ : ∃ T, T = r0 + r0 := ⟨_, rfl⟩
          rw [← hT] at hge HBD G
          clear hT hr2
          rcases hge with hge | hge
          · have HCI := Lib.hid (HCm.out _ p3 c3 r1 G.out.sr.rd G.out.sy (by omega) (-1) (by rw [G.out.vr, NT.cmpI, if_pos hge]))
            have EQ := Lib.hid (show q0 * 2 ^ (i + 1) = X / 2 ^ i / Y * 2 ^ i by
              have h1 := HBD.out.1
              rw [if_neg (by omega), Nat.add_zero] at h1
              rw [h1, Nat.pow_succ, Nat.mul_comm (2 ^ i) 2, ← Nat.mul_assoc, Nat.mul_two])
            have ER := Lib.hid (show T = X / 2 ^ i % Y by
              have h1 := HBD.out.2
              rw [if_neg (by omega), Nat.sub_zero] at h1
              exact h1.symm)
            rw [EQ.out, ER.out] at G
            clear hge HBD EQ ER
            go_wp2_with fail
            refine (HCI.out).mono ?_; rintro e w6 ⟨rfl, hb6⟩
            replace G := Lib.hid (G.out.nx hb6)
            clear HCI hb6
            go_wp2_with fail
            go_roundw
            case rel => exact ⟨i, p3, c3, r1, os, rfl, rfl, by omega, hos, G⟩
            case measure => simp [intOf]
          · obtain ⟨cz, hcz⟩ : ∃ z, z = NT.cmpI T Y := ⟨_, rfl⟩
            have hcz0 : 0 ≤ cz := by rw [hcz, NT.cmpI, if_neg (by omega)]; split <;> omega
            have HCI := Lib.hid (HCm.out _ p3 c3 r1 G.out.sr.rd G.out.sy (by omega) cz (by rw [G.out.vr]; exact hcz))
            obtain ⟨r3, hr3⟩ : ∃ z, z = L (T - Y) := ⟨_, rfl⟩
            have HR3 := Lib.hid hr3
            have HGE := Lib.hid hge
            have ER := Lib.hid (show T - Y = X / 2 ^ i % Y by
              have h1 := HBD.out.2
              rw [if_pos hge] at h1
              exact h1.symm)
            have hroom := up_room q0 i G.out.hd G.out.hv
            have hset := up_set q0 i G.out.hd G.out.hv hi16
            have EQ : (q0 + q0 + 1) * 2 ^ i = X / 2 ^ i / Y * 2 ^ i := by
              have h1 := HBD.out.1
              rw [if_pos hge] at h1
              rw [h1]
            rw [EQ] at hset
            clear hcz hr3 hge HBD EQ
            go_wp2_with fail
            refine (HCI.out).mono ?_; rintro e w6 ⟨rfl, hb6⟩
            replace G := Lib.hid (G.out.nx hb6)
            have HSI := Lib.hid (HSu.out _ p3 c3 r1 r3 G.out.sr.rd G.out.sy (by omega) (by rw [G.out.vr]; exact HR3.out) (by rw [G.out.vr]; exact HGE.out))
            clear HCI hb6
            go_wp2_with fail
            refine (HSI.out).mono ?_; rintro e w7 ⟨p7, c7, rfl, ho7, hb7⟩
            have G7 := Lib.hid (G.out.nx hb7)
            have co := G7.out.ow.cell (i / 16) hi16
            have cf := G7.out.ow.free (i / 16)
            obtain ⟨ps, hps⟩ : ∃ ps, ps = os.set (i / 16) (os[i / 16]?.getD 0 + 2 ^ (i % 16)) := ⟨_, rfl⟩
            have hpl : ps.length = ds.length + 1 := by rw [hps]; simp; omega
            have HG2 := G.out.store hb7 ho7 (HR3.out.trans (congrArg L ER.out)) hroom.1 hset.1 hset.2
            rw [← hps] at HG2
            obtain ⟨v, hv⟩ : ∃ v, v = os[i / 16]?.getD 0 := ⟨_, rfl⟩
            obtain ⟨t, ht⟩ : ∃ t, t = 2 ^ (i % 16) := ⟨_, rfl⟩
            rw [← hv] at co hroom HG2
            rw [← ht] at hroom HG2
            replace HG2 := Lib.hid HG2
            clear HSI ho7 hb7 HR3 ER HGE G7 G
            rw [show ((v + t : Nat) : Int) = (v : Int) + (t : Int) by omega] at HG2
            have HT1 := Lib.hid ht
            clear hset hps hv ht
            go_wp2_with fail
            go_loop [13, 14] (fun s4 s5 => ∃ x m : Nat, s4 = .int .u64 x ∧ s5 = .int .i64 m ∧ m ≤ i % 16 ∧ x ≤ 32768 ∧ Hid (x = 2 ^ m)) (fun _ s => i % 16 - (intOf s).toNat)
            case atStart => exact ⟨1, 0, rfl, rfl, by omega, by omega, rfl⟩
            case round =>
              obtain ⟨x, m, rfl, rfl, hm, hx, HXM⟩ := hrel
              by_cases hlt2 : m < i % 16
              · have HX2 : Hid (2 * x = 2 ^ (m + 1)) := by rw [Hid, HXM.out, Nat.pow_succ']
                have hx2 : 2 * x ≤ 32768 := by rw [HX2.out]; exact HT.out _ (by omega)
                clear HXM
                go_wp2_with fail
                refine ⟨⟨2 * x, m + 1, by simp, by simp, by omega, hx2, HX2⟩, ?_⟩
                simp [intOf]; omega
              · have hkr : m = i % 16 := by omega
                obtain rfl : x = t := by rw [HT1.out, HXM.out, hkr]
                clear hkr HXM HT1
                go_wp2_with fail
                go_roundw
                case rel => exact ⟨i, p7, c7, r3, ps, rfl, by go_num, by omega, hpl, HG2⟩
                case measure => simp [intOf]
        · have HBI := Lib.hid (HBt.out _ G.out.sx i (by have := HBL.out; omega) true (by rw [← HBE.out]; rfl))
          go_wp2_with fail
          refine (HBI.out).mono ?_; rintro e w4 ⟨rfl, hb4⟩
          replace G := Lib.hid (G.out.nx hb4)
          clear HBI hb4
          obtain ⟨r2, hr2⟩ : ∃ z, z = L (r0 + r0 + 1) := ⟨_, rfl⟩
          have lr2 : r2.length ≤ M + 1 := by rw [hr2]; exact (FR1.out 1 (by omega)).len
          have HR2 := Lib.hid hr2
          have R1 := Lib.hid (Rd.lit (w := w4) (e := 66) [1] #[.int .u64 1] (ws_of _ (by decide +kernel)) rfl (by decide))
          have KA := (Kp.refl w4).al (.cells #[.int .u64 1] 66)
          have CB := Lib.hid (HAd.out _ p3 _ c3 _ r1 [1] r2 (G.out.sr.rd.nx KA) R1.out (by omega) (by simp) (by rw [HR2.out, G.out.vr, LN.V_one]))
          replace G := Lib.hid (G.out.nx KA)
          clear KA hr2 R1
          go_wp2_with fail
          refine (CB.out).mono ?_; rintro e w5 ⟨p5, c5, rfl, ho5, hb5⟩
          replace G := Lib.hid (G.out.setR hb5 HR2.out ho5)
          clear CB ho5 hb5
          obtain ⟨T, hT⟩ : ∃ T, T = r0 + r0 + 1 := ⟨_, rfl⟩
          rw [← hT] at hge HBD G HR2
          clear hT
          rcases hge with hge | hge
          · have HCI := Lib.hid (HCm.out _ p5 c5 r2 G.out.sr.rd G.out.sy (by omega) (-1) (by rw [G.out.vr, NT.cmpI, if_pos hge]))
            have EQ := Lib.hid (show q0 * 2 ^ (i + 1) = X / 2 ^ i / Y * 2 ^ i by
              have h1 := HBD.out.1
              rw [if_neg (by omega), Nat.add_zero] at h1
              rw [h1, Nat.pow_succ, Nat.mul_comm (2 ^ i) 2, ← Nat.mul_assoc, Nat.mul_two])
            have ER := Lib.hid (show T = X / 2 ^ i % Y by
              have h1 := HBD.out.2
              rw [if_neg (by omega), Nat.sub_zero] at h1
              exact h1.symm)
            rw [EQ.out, ER.out] at G
            clear hge HBD EQ ER
            go_wp2_with fail
            refine (HCI.out).mono ?_; rintro e w6 ⟨rfl, hb6⟩
            replace G := Lib.hid (G.out.nx hb6)
            clear HCI hb6
            go_wp2_with fail
            go_roundw
            case rel => exact ⟨i, p5, c5, r2, os, rfl, rfl, by omega, hos, G⟩
            case measure => simp [intOf]
          · obtain ⟨cz, hcz⟩ : ∃ z, z = NT.cmpI T Y := ⟨_, rfl⟩
            have hcz0 : 0 ≤ cz := by rw [hcz, NT.cmpI, if_neg (by omega)]; split <;> omega
            have HCI := Lib.hid (HCm.out _ p5 c5 r2 G.out.sr.rd G.out.sy (by omega) cz (by rw [G.out.vr]; exact hcz))
            obtain ⟨r3, hr3⟩ : ∃ z, z = L (T - Y) := ⟨_, rfl⟩
            have HR3 := Lib.hid hr3
            have HGE := Lib.hid hge
            have ER := Lib.hid (show T - Y = X / 2 ^ i % Y by
              have h1 := HBD.out.2
              rw [if_pos hge] at h1
              exact h1.symm)
            have hroom := up_room q0 i G.out.hd G.out.hv
            have hset := up_set q0 i G.out.hd G.out.hv hi16
            have EQ : (q0 + q0 + 1) * 2 ^ i = X / 2 ^ i / Y * 2 ^ i := by
              have h1 := HBD.out.1
              rw [if_pos hge] at h1
              rw [h1]
            rw [EQ] at hset
            clear hcz hr3 hge HBD EQ
            go_wp2_with fail
            refine (HCI.out).mono ?_; rintro e w6 ⟨rfl, hb6⟩
            replace G := Lib.hid (G.out.nx hb6)
            have HSI := Lib.hid (HSu.out _ p5 c5 r2 r3 G.out.sr.rd G.out.sy (by omega) (by rw [G.out.vr]; exact HR3.out) (by rw [G.out.vr]; exact HGE.out))
            clear HCI hb6
            go_wp2_with fail
            refine (HSI.out).mono ?_; rintro e w7 ⟨p7, c7, rfl, ho7, hb7⟩
            have G7 := Lib.hid (G.out.nx hb7)
            have co := G7.out.ow.cell (i / 16) hi16
            have cf := G7.out.ow.free (i / 16)
            obtain ⟨ps, hps⟩ : ∃ ps, ps = os.set (i / 16) (os[i / 16]?.getD 0 + 2 ^ (i % 16)) := ⟨_, rfl⟩
            have hpl : ps.length = ds.length + 1 := by rw [hps]; simp; omega
            have HG2 := G.out.store hb7 ho7 (HR3.out.trans (congrArg L ER.out)) hroom.1 hset.1 hset.2
            rw [← hps] at HG2
            obtain ⟨v, hv⟩ : ∃ v, v = os[i / 16]?.getD 0 := ⟨_, rfl⟩
            obtain ⟨t, ht⟩ : ∃ t, t = 2 ^ (i % 16) := ⟨_, rfl⟩
            rw [← hv] at co hroom HG2
            rw [← ht] at hroom HG2
            replace HG2 := Lib.hid HG2
            clear HSI ho7 hb7 HR3 ER HGE G7 G
            rw [show ((v + t : Nat) : Int) = (v : Int) + (t : Int) by omega] at HG2
            have HT1 := Lib.hid ht
            clear hset hps hv ht
            go_wp2_with fail
            go_loop [13, 14] (fun s4 s5 => ∃ x m : Nat, s4 = .int .u64 x ∧ s5 = .int .i64 m ∧ m ≤ i % 16 ∧ x ≤ 32768 ∧ Hid (x = 2 ^ m)) (fun _ s => i % 16 - (intOf s).toNat)
            case atStart => exact ⟨1, 0, rfl, rfl, by omega, by omega, rfl⟩
            case round =>
              obtain ⟨x, m, rfl, rfl, hm, hx, HXM⟩ := hrel
              by_cases hlt2 : m < i % 16
              · have HX2 : Hid (2 * x = 2 ^ (m + 1)) := by rw [Hid, HXM.out, Nat.pow_succ']
                have hx2 : 2 * x ≤ 32768 := by rw [HX2.out]; exact HT.out _ (by omega)
                clear HXM
                go_wp2_with fail
                refine ⟨⟨2 * x, m + 1, by simp, by simp, by omega, hx2, HX2⟩, ?_⟩
                simp [intOf]; omega
              · have hkr : m = i % 16 := by omega
                obtain rfl : x = t := by rw [HT1.out, HXM.out, hkr]
                clear hkr HXM HT1
                go_wp2_with fail
                go_roundw
                case rel => exact ⟨i, p7, c7, r3, ps, rfl, by go_num, by omega, hpl, HG2⟩
                case measure => simp [intOf]
end Go.Proofs.RA
