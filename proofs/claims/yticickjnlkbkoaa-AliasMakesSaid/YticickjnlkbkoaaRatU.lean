/- Fractions that are not below 0: the document's sums. -/
import Derived.Test.YticickjnlkbkoaaRatI
namespace Go.Proofs.RA
open Go.RowKit
open Go.Proofs
open Go.Proofs.NP
open Go.Proofs.SL
open Go.Proofs.NR (Fits GivesE)
set_option linter.unusedVariables false
set_option linter.unusedSimpArgs false
set_option maxRecDepth 20000
variable {w : World} {a b a' b' : Option Addr} {ca cb ca' cb' l k l' k' : Nat} {xs ys zs us vs xs' ys' us' vs' ps qs : List Nat}
set_option maxHeartbeats 1000000 in
theorem fcount (hx : Rd w a ca xs) (hy : Rd w b cb ys) (lx : xs.length = l) (ly : ys.length = k) (h : l ≤ 1000) (h' : k ≤ 1000) (X Y : Nat) (hX : V xs = X) (hY : V ys = Y) (h0 : Y ≠ 0) (hu : us = L (X / Nat.gcd X Y)) (hv : vs = L (Y / Nat.gcd X Y)) :
    Calls Try.prog 73 #[.agg #[.bool false, .slice a l ca, .slice b k cb]] w (GivesR1 w us vs) := by
  have HM := Lib.hid (fun (w1 : World) (hx : Rd w1 a ca xs) (hy : Rd w1 b cb ys) => fmake (us := us) (vs := vs) hx hy lx ly h h' X Y hX hY h0 hu hv)
  have R0 := Lib.hid (R2.new w #[.bool false, .slice a l ca, .slice b k cb] 42 #[.bool false, .slice none 0 0, .slice none 0 0] 42)
  have HX := Lib.hid hx
  have HY := Lib.hid hy
  clear hx hy lx ly hX hY h0 hu hv
  go_enter Try.func73, Try.ntmps73
  go_wp2_with fail
  generalize ((w.alloc (.cells #[.bool false, .slice a l ca, .slice b k cb] 42)).alloc (.cells #[.bool false, .slice none 0 0, .slice none 0 0] 42)) = W0 at *
  refine (HM.out _ (HX.out.nx R0.out.kw) (HY.out.nx R0.out.kw)).mono ?_; rintro e W1 ⟨p1, d1, p2, d2, rfl, ho1, ho2, hb⟩
  have HO1 := Lib.hid (ho1.mono R0.out.sz)
  have HO2 := Lib.hid (ho2.mono R0.out.sz)
  have R1 := Lib.hid (R0.out.nx hb)
  have KA := (Kp.refl W1).al (.cells #[.bool false, .slice p1 us.length d1, .slice p2 vs.length d2] 42)
  have BV := Lib.hid (Bk.new W1 #[.bool false, .slice p1 us.length d1, .slice p2 vs.length d2] 42)
  replace HO1 := Lib.hid (HO1.out.nx KA)
  replace HO2 := Lib.hid (HO2.out.nx KA)
  replace R1 := Lib.hid (R1.out.nx KA)
  have f0 := R1.out.b2.f 0
  have f1 := R1.out.b2.f 1
  have f2 := R1.out.b2.f 2
  have r0 := R1.out.b2.c 0
  have r1 := R1.out.b2.c 1
  have r2 := R1.out.b2.c 2
  clear HM R0 ho1 ho2 hb KA HX HY
  go_wp2_with fail
  have RB := R1.out.b2.put3 (.bool false) (.slice p1 us.length d1) (.slice p2 vs.length d2)
  unfold RA.put3 at RB
  have z0 := RB.c 0
  have z1 := RB.c 1
  have z2 := RB.c 2
  refine bodyPost_ret (v := .agg #[.bool false, .slice p1 us.length d1, .slice p2 vs.length d2]) (by simp [results, Try.results73, go_sem, z0, z1, z2]) rfl ?_
  exact ⟨_, _, _, _, rfl, (HO1.out.put3 (by omega) _ _ _).mono (by omega), (HO2.out.put3 (by omega) _ _ _).mono (by omega), Kp.put3 R1.out.kw (by omega) _ _ _⟩
set_option maxHeartbeats 2000000 in
theorem fplus (hx : Rd w a ca xs) (hy : Rd w b cb ys) (lx : xs.length = l) (ly : ys.length = k) (h : l ≤ 2000) (h' : k ≤ 2000) (hz : zs = L (V xs + V ys)) (lz : zs.length ≤ 5000) :
    Calls Try.prog 74 #[.agg #[.bool false, .slice a l ca], .agg #[.bool false, .slice b k cb]] w (GivesW w zs) := by
  have HD := Lib.hid (fun (W : World) (hx : Rd W a ca xs) (hy : Rd W b cb ys) => RN.add (zs := zs) hx hy lx ly (by omega) (by omega) hz)
  have HM := Lib.hid (fun (W : World) (p : Option Addr) (c : Nat) (hg : Rd W p c zs) => smake (zs := zs) hg rfl (by omega) (by rw [hz, V_L]))
  have R0 := Lib.hid (R3.new w #[.bool false, .slice a l ca] 40 #[.bool false, .slice b k cb] 40 #[.bool false, .slice none 0 0] 40)
  have HX := Lib.hid hx
  have HY := Lib.hid hy
  clear hx hy lx ly hz
  go_enter Try.func74, Try.ntmps74
  go_wp2_with fail
  generalize (((w.alloc (.cells #[.bool false, .slice a l ca] 40)).alloc (.cells #[.bool false, .slice b k cb] 40)).alloc (.cells #[.bool false, .slice none 0 0] 40)) = V at *
  have HV := Lib.hid (fun (W' : World) (hk : Kp V W') => show R3 w W' #[.bool false, .slice a l ca] 40 #[.bool false, .slice b k cb] 40 #[.bool false, .slice none 0 0] 40 ∧ Rd W' a ca xs ∧ Rd W' b cb ys from ⟨R0.out.nx hk, HX.out.nx (Kp.nx R0.out.kw hk), HY.out.nx (Kp.nx R0.out.kw hk)⟩)
  have x0 := R0.out.b1.c 0
  have y0 := R0.out.b2.c 0
  clear R0 HX HY
  go_wp2_with fail
  clear x0 y0
  go_region_held3 (fun W => W.cell? ⟨w.heap.size, 0, none⟩ = some (.bool false) ∧ W.cell? ⟨w.heap.size, 1, none⟩ = some (.slice a l ca) ∧ W.cell? ⟨w.heap.size + 1, 1, none⟩ = some (.slice b k cb))
    (first
      | exact ⟨(HV.out _ (Kp.refl _)).1.b1.c 0, (HV.out _ (Kp.refl _)).1.b1.c 1, (HV.out _ (Kp.refl _)).1.b2.c 1⟩
      | exact ⟨(HV.out _ (Kp.refl _).dr1).1.b1.c 0, (HV.out _ (Kp.refl _).dr1).1.b1.c 1, (HV.out _ (Kp.refl _).dr1).1.b2.c 1⟩
      | exact ⟨(HV.out _ k3).1.b1.c 0, (HV.out _ k3).1.b1.c 1, (HV.out _ k3).1.b2.c 1⟩
      | exact ⟨(HV.out _ k4).1.b1.c 0, (HV.out _ k4).1.b1.c 1, (HV.out _ k4).1.b2.c 1⟩
      | exact ⟨(set3s (HV.out _ k4).1 _ _).1.c 0, (set3s (HV.out _ k4).1 _ _).1.c 1, (set3s (HV.out _ k4).1 _ _).2.1.c 1⟩)
    (first
      | (go_at_call 96; refine (HD.out _ (HV.out _ (Kp.refl _).dr1).2.1 (HV.out _ (Kp.refl _).dr1).2.2).mono ?_; rintro e W3 ⟨p3, d3, rfl, ho3, hb3⟩; have k3 := Kp.nx (Kp.refl V).dr1 hb3)
      | (go_at_call 93; refine (HM.out _ p3 d3 ho3.rd).mono ?_; rintro e W4 ⟨p4, d4, rfl, ho4, hb4⟩; have k4 := Kp.nx k3 hb4; have f0 := (HV.out _ k4).1.b3.f 0; have f1 := (HV.out _ k4).1.b3.f 1; have r0 := (HV.out _ k4).1.b3.c 0; have r1 := (HV.out _ k4).1.b3.c 1))
  have H3 := (HV.out _ k3).1.sz
  have H4 := Lib.hid (HV.out _ k4).1
  have HO4 := Lib.hid (ho4.mono H3)
  clear HV HD HM ho3 ho4 hb3 hb4 k3 k4 H3 f0 f1 r0 r1
  go_wp2_with fail
  have RB := (set3s H4.out (.bool false) (.slice p4 zs.length d4)).2.2
  have z0 := RB.c 0
  have z1 := RB.c 1
  refine bodyPost_ret (v := .agg #[.bool false, .slice p4 zs.length d4]) (by simp [results, Try.results74, go_sem, z0, z1]) rfl ?_
  exact ⟨_, _, rfl, ((HO4.out.set (by omega) 0 _).set (by omega) 1 _).mono (by omega), (H4.out.kw.setCell (p := ⟨w.heap.size + 1 + 1, 0, none⟩) (by simp; omega) _).setCell (p := ⟨w.heap.size + 1 + 1, 1, none⟩) (by simp; omega) _⟩
/-- ways that come to the same state go on as one: a box -/
theorem joinB {goal : Prop} (F G : World → Nat → Option Addr → Nat → Prop) (h : (∀ W g p d, F W g p d → G W g p d) → goal) (key : ∀ W g p d, F W g p d → G W g p d) : goal := h key
set_option maxHeartbeats 16000000 in
theorem fadd (hx : Rd w a ca xs) (hy : Rd w b cb ys) (lx : xs.length = l) (ly : ys.length = k) (hx' : Rd w a' ca' xs') (hy' : Rd w b' cb' ys') (lx' : xs'.length = l') (ly' : ys'.length = k') (hl : l ≤ 200 ∧ k ≤ 200 ∧ l' ≤ 200 ∧ k' ≤ 200)
    (X Y X' Y' N D : Nat) (hX : V xs = X) (hY : V ys = Y) (hX' : V xs' = X') (hY' : V ys' = Y') (h0 : Y ≠ 0) (h0' : Y' ≠ 0) (hN : N = X / Nat.gcd X Y * (Y' / Nat.gcd X' Y') + X' / Nat.gcd X' Y' * (Y / Nat.gcd X Y)) (hD : D = Y / Nat.gcd X Y * (Y' / Nat.gcd X' Y')) (hp : ps = L (N / Nat.gcd N D)) (hq : qs = L (D / Nat.gcd N D)) :
    Calls Try.prog 45 #[.agg #[.bool false, .slice a l ca, .slice b k cb], .agg #[.bool false, .slice a' l' ca', .slice b' k' cb']] w (GivesR1 w ps qs) := by
  obtain ⟨us, hus⟩ : ∃ s, s = L (X / Nat.gcd X Y) := ⟨_, rfl⟩
  obtain ⟨vs, hvs⟩ : ∃ s, s = L (Y / Nat.gcd X Y) := ⟨_, rfl⟩
  obtain ⟨us', hus'⟩ : ∃ s, s = L (X' / Nat.gcd X' Y') := ⟨_, rfl⟩
  obtain ⟨vs', hvs'⟩ : ∃ s, s = L (Y' / Nat.gcd X' Y') := ⟨_, rfl⟩
  have FX : Fits X l := by rw [← hX]; exact Fits.of hx.ws (by omega)
  have FY : Fits Y k := by rw [← hY]; exact Fits.of hy.ws (by omega)
  have FX' : Fits X' l' := by rw [← hX']; exact Fits.of hx'.ws (by omega)
  have FY' : Fits Y' k' := by rw [← hY']; exact Fits.of hy'.ws (by omega)
  have lu : us.length ≤ 200 := by rw [hus]; exact Nat.le_trans (Fits.div FX _).len hl.1
  have lv : vs.length ≤ 200 := by rw [hvs]; exact Nat.le_trans (Fits.div FY _).len hl.2.1
  have lu' : us'.length ≤ 200 := by rw [hus']; exact Nat.le_trans (Fits.div FX' _).len hl.2.2.1
  have lv' : vs'.length ≤ 200 := by rw [hvs']; exact Nat.le_trans (Fits.div FY' _).len hl.2.2.2
  have hd1 : Y / Nat.gcd X Y ≠ 0 := by have := Nat.div_pos (Nat.gcd_le_right X (by omega : 0 < Y)) (Nat.gcd_pos_of_pos_right _ (by omega)); omega
  have hd2 : Y' / Nat.gcd X' Y' ≠ 0 := by have := Nat.div_pos (Nat.gcd_le_right X' (by omega : 0 < Y')) (Nat.gcd_pos_of_pos_right _ (by omega)); omega
  have hD0 : D ≠ 0 := by rw [hD]; exact Nat.mul_ne_zero hd1 hd2
  obtain ⟨ns, hns⟩ : ∃ s, s = L N := ⟨_, rfl⟩
  obtain ⟨ds, hds⟩ : ∃ s, s = L D := ⟨_, rfl⟩
  obtain ⟨ms, hms⟩ : ∃ s, s = L (X / Nat.gcd X Y * (Y' / Nat.gcd X' Y')) := ⟨_, rfl⟩
  obtain ⟨ms', hms'⟩ : ∃ s, s = L (X' / Nat.gcd X' Y' * (Y / Nat.gcd X Y)) := ⟨_, rfl⟩
  have lm : ms.length ≤ 400 := by rw [hms]; exact Nat.le_trans (Fits.mul (Fits.div FX _) (Fits.div FY' _)).len (by omega)
  have lm' : ms'.length ≤ 400 := by rw [hms']; exact Nat.le_trans (Fits.mul (Fits.div FX' _) (Fits.div FY _)).len (by omega)
  have ln : ns.length ≤ 900 := by rw [hns, hN]; exact Nat.le_trans (Fits.add (Fits.mul (Fits.div FX _) (Fits.div FY' _)) (Fits.mul (Fits.div FX' _) (Fits.div FY _))).len (by omega)
  have ld : ds.length ≤ 900 := by rw [hds, hD]; exact Nat.le_trans (Fits.mul (Fits.div FY _) (Fits.div FY' _)).len (by omega)
  have HC1 := Lib.hid (fun (W : World) (hx : Rd W a ca xs) (hy : Rd W b cb ys) => fcount (us := us) (vs := vs) hx hy lx ly (by omega) (by omega) X Y hX hY h0 hus hvs)
  have HC2 := Lib.hid (fun (W : World) (hx : Rd W a' ca' xs') (hy : Rd W b' cb' ys') => fcount (us := us') (vs := vs') hx hy lx' ly' (by omega) (by omega) X' Y' hX' hY' h0' hus' hvs')
  have HB1 := Lib.hid (fun (W : World) (p q : Option Addr) (c d : Nat) (h1 : Rd W p c us) (h2 : Rd W q d vs') => RN.mul (zs := ms) h1 h2 rfl rfl (by omega) (by omega) (by rw [hus, hvs', V_L, V_L, hms]))
  have HB2 := Lib.hid (fun (W : World) (p q : Option Addr) (c d : Nat) (h1 : Rd W p c us') (h2 : Rd W q d vs) => RN.mul (zs := ms') h1 h2 rfl rfl (by omega) (by omega) (by rw [hus', hvs, V_L, V_L, hms']))
  have HA := Lib.hid (fun (W : World) (p q : Option Addr) (c d : Nat) (h1 : Rd W p c ms) (h2 : Rd W q d ms') => fplus (zs := ns) h1 h2 rfl rfl (by omega) (by omega) (by rw [hms, hms', V_L, V_L, hns, hN]) (by omega))
  have HMu := Lib.hid (fun (W : World) (p q : Option Addr) (c d : Nat) (h1 : Rd W p c vs) (h2 : Rd W q d vs') => RN.mul (zs := ds) h1 h2 rfl rfl (by omega) (by omega) (by rw [hvs, hvs', V_L, V_L, hds, hD]))
  have HR := Lib.hid (fun (W : World) (p q : Option Addr) (c d : Nat) (h1 : Rd W p c ns) (h2 : Rd W q d ds) => fmake (us := ps) (vs := qs) h1 h2 rfl rfl (by omega) (by omega) N D (by rw [hns, V_L]) (by rw [hds, V_L]) hD0 hp hq)
  have R0 := Lib.hid (R3.new w #[.bool false, .slice a l ca, .slice b k cb] 42 #[.bool false, .slice a' l' ca', .slice b' k' cb'] 42 #[.bool false, .slice none 0 0, .slice none 0 0] 42)
  have HX := Lib.hid hx
  have HY := Lib.hid hy
  have HX' := Lib.hid hx'
  have HY' := Lib.hid hy'
  clear hx hy lx ly hX hY h0 hx' hy' lx' ly' hX' hY' h0' hus hvs hus' hvs' hms hms' FX FY FX' FY' hns hds hN hD hp hq hd1 hd2 hD0
  go_enter Try.func45, Try.ntmps45
  go_wp2_with fail
  generalize (((w.alloc (.cells #[.bool false, .slice a l ca, .slice b k cb] 42)).alloc (.cells #[.bool false, .slice a' l' ca', .slice b' k' cb'] 42)).alloc (.cells #[.bool false, .slice none 0 0, .slice none 0 0] 42)) = V at *
  have HV := Lib.hid (fun (W' : World) (hk : Kp V W') => show R3 w W' #[.bool false, .slice a l ca, .slice b k cb] 42 #[.bool false, .slice a' l' ca', .slice b' k' cb'] 42 #[.bool false, .slice none 0 0, .slice none 0 0] 42 ∧ Rd W' a ca xs ∧ Rd W' b cb ys ∧ Rd W' a' ca' xs' ∧ Rd W' b' cb' ys' from
    ⟨R0.out.nx hk, HX.out.nx (Kp.nx R0.out.kw hk), HY.out.nx (Kp.nx R0.out.kw hk), HX'.out.nx (Kp.nx R0.out.kw hk), HY'.out.nx (Kp.nx R0.out.kw hk)⟩)
  obtain ⟨v0, v1, v2, v3, v4, v5⟩ := (HV.out _ (Kp.refl _)).1.all3
  clear R0 HX HY HX' HY'
  apply joinR (F := fun W p1 q1 p2 q2 d1 e1 d2 e2 => R3 w W #[.bool false, .slice p1 us.length d1, .slice q1 vs.length e1] 42 #[.bool false, .slice p2 us'.length d2, .slice q2 vs'.length e2] 42 #[.bool false, .slice none 0 0, .slice none 0 0] 42 ∧ Rd W p1 d1 us ∧ Rd W q1 e1 vs ∧ Rd W p2 d2 us' ∧ Rd W q2 e2 vs')
  case h =>
   intro KEY
   go_region_with (first
     | (go_at_call 73; (with_reducible refine (HC1.out _ (HV.out _ (Kp.refl _).dr1).2.1 (HV.out _ (Kp.refl _).dr1).2.2.1).mono ?_); rintro e W3 ⟨p1, d1, q1, e1, rfl, ho1, ho2, hb3⟩; have k3 := Kp.nx (Kp.refl V).dr1 hb3; obtain ⟨w0, w1, w2, w3, w4, w5⟩ := (HV.out _ k3).1.all3)
     | (go_at_call 73; (with_reducible refine (HC2.out _ (HV.out _ k3).2.2.2.1 (HV.out _ k3).2.2.2.2).mono ?_); rintro e W4 ⟨p2, d2, q2, e2, rfl, ho3, ho4, hb4⟩; have k4 := Kp.nx k3 hb4; obtain ⟨f0, f1, f2, f3, f4, f5⟩ := (HV.out _ k4).1.fr; obtain ⟨x0, x1, x2, x3, x4, x5⟩ := (HV.out _ k4).1.all3))
   all_goals
     have H4 := (HV.out _ k4).1.put (.bool false) (.slice p1 us.length d1) (.slice q1 vs.length e1) (.bool false) (.slice p2 us'.length d2) (.slice q2 vs'.length e2)
     have HA1 := ((ho1.mono (show w.heap.size + 3 ≤ V.drew.heap.size from (HV.out _ (Kp.refl _).dr1).1.sz)).nx hb4).put3 (g := w.heap.size) (by omega) (.bool false) (.slice p1 us.length d1) (.slice q1 vs.length e1) |>.put3 (g := w.heap.size + 1) (by omega) (.bool false) (.slice p2 us'.length d2) (.slice q2 vs'.length e2)
     have HA2 := ((ho2.mono (show w.heap.size + 3 ≤ V.drew.heap.size from (HV.out _ (Kp.refl _).dr1).1.sz)).nx hb4).put3 (g := w.heap.size) (by omega) (.bool false) (.slice p1 us.length d1) (.slice q1 vs.length e1) |>.put3 (g := w.heap.size + 1) (by omega) (.bool false) (.slice p2 us'.length d2) (.slice q2 vs'.length e2)
     have HA3 := (ho3.mono (HV.out _ k3).1.sz).put3 (g := w.heap.size) (by omega) (.bool false) (.slice p1 us.length d1) (.slice q1 vs.length e1) |>.put3 (g := w.heap.size + 1) (by omega) (.bool false) (.slice p2 us'.length d2) (.slice q2 vs'.length e2)
     have HA4 := (ho4.mono (HV.out _ k3).1.sz).put3 (g := w.heap.size) (by omega) (.bool false) (.slice p1 us.length d1) (.slice q1 vs.length e1) |>.put3 (g := w.heap.size + 1) (by omega) (.bool false) (.slice p2 us'.length d2) (.slice q2 vs'.length e2)
     unfold RA.put3 at H4 HA1 HA2 HA3 HA4
     generalize ((((((W4.setCell ⟨w.heap.size, 0, none⟩ (.bool false)).setCell ⟨w.heap.size, 1, none⟩ (.slice p1 us.length d1)).setCell ⟨w.heap.size, 2, none⟩ (.slice q1 vs.length e1)).setCell ⟨w.heap.size + 1, 0, none⟩ (.bool false)).setCell ⟨w.heap.size + 1, 1, none⟩ (.slice p2 us'.length d2)).setCell ⟨w.heap.size + 1, 2, none⟩ (.slice q2 vs'.length e2)) = W5 at *
     exact KEY W5 p1 q1 p2 q2 d1 e1 d2 e2 ⟨H4, HA1.rd, HA2.rd, HA3.rd, HA4.rd⟩
  case key =>
    intro W5 p1 q1 p2 q2 d1 e1 d2 e2 HF
    have HW := Lib.hid (fun (W' : World) (hk : Kp W5 W') => show (W'.cell? ⟨w.heap.size, 0, none⟩ = some (.bool false) ∧ W'.cell? ⟨w.heap.size, 1, none⟩ = some (.slice p1 us.length d1) ∧ W'.cell? ⟨w.heap.size, 2, none⟩ = some (.slice q1 vs.length e1) ∧ W'.cell? ⟨w.heap.size + 1, 0, none⟩ = some (.bool false) ∧ W'.cell? ⟨w.heap.size + 1, 1, none⟩ = some (.slice p2 us'.length d2) ∧ W'.cell? ⟨w.heap.size + 1, 2, none⟩ = some (.slice q2 vs'.length e2)) ∧ R3 w W' #[.bool false, .slice p1 us.length d1, .slice q1 vs.length e1] 42 #[.bool false, .slice p2 us'.length d2, .slice q2 vs'.length e2] 42 #[.bool false, .slice none 0 0, .slice none 0 0] 42 ∧ Rd W' p1 d1 us ∧ Rd W' q1 e1 vs ∧ Rd W' p2 d2 us' ∧ Rd W' q2 e2 vs' ∧ True from
      ⟨(HF.1.nx hk).all3, HF.1.nx hk, HF.2.1.nx hk, HF.2.2.1.nx hk, HF.2.2.2.1.nx hk, HF.2.2.2.2.nx hk, trivial⟩)
    clear HV HC1 HC2 v0 v1 v2 v3 v4 v5 HF
    go_wp2_with fail
    apply joinB (F := fun W g p d => Kp W5 W ∧ W5.heap.size ≤ g ∧ Bk W g #[.bool false, .slice p ms.length d] 40 ∧ Rd W p d ms)
    case h =>
      intro KEY
      go_region_held3 (fun W => W.cell? ⟨w.heap.size, 0, none⟩ = some (.bool false) ∧ W.cell? ⟨w.heap.size, 1, none⟩ = some (.slice p1 us.length d1) ∧ W.cell? ⟨w.heap.size, 2, none⟩ = some (.slice q1 vs.length e1) ∧ W.cell? ⟨w.heap.size + 1, 0, none⟩ = some (.bool false) ∧ W.cell? ⟨w.heap.size + 1, 1, none⟩ = some (.slice p2 us'.length d2) ∧ W.cell? ⟨w.heap.size + 1, 2, none⟩ = some (.slice q2 vs'.length e2))
        (first
          | exact (HW.out _ (Kp.refl _)).1
          | exact (HW.out _ (Kp.refl _).dr1).1
          | exact (HW.out _ (Kp.al (Kp.refl _).dr1 (.cells #[.bool false, .slice none 0 0] 40))).1
          | exact (HW.out _ ((Kp.refl _).al (.cells #[.bool false, .slice none 0 0] 40)).dr1).1
          | exact (HW.out _ ((Kp.refl _).al (.cells #[.bool false, .slice none 0 0] 40))).1
          | exact (HW.out _ k5).1
          | exact (HW.out _ (Kp.al k5 (.cells #[.bool false, .slice none 0 0] 40))).1
          | exact (HW.out _ kS).1)
        (first
          | (go_at_call 71; (with_reducible refine (HB1.out _ p1 q2 d1 e2 ((HW.out _ (Kp.refl W5).dr1).2.2.1) ((HW.out _ (Kp.refl W5).dr1).2.2.2.2.2.1)).mono ?_); rintro e Wc ⟨p3, d3, rfl, ho5, hb5⟩; have k5 := Kp.nx (Kp.refl W5).dr1 hb5; have B9 := Bk.new Wc #[.bool false, .slice none 0 0] 40; have kab := Kp.al (Kp.refl Wc) (.cells #[.bool false, .slice p3 ms.length d3] 40); have kS := Kp.nx k5 kab; have hg9 := k5.size; have BV := Bk.new Wc #[.bool false, .slice p3 ms.length d3] 40; have HO := ho5.rd.nx kab; have mkz := kab; have f0 := B9.f 0; have f1 := B9.f 1; have r0 := B9.c 0; have r1 := B9.c 1)
          | (go_at_call 71; (with_reducible refine (HB1.out _ p1 q2 d1 e2 ((HW.out _ (Kp.al (Kp.refl W5).dr1 (.cells #[.bool false, .slice none 0 0] 40))).2.2.1) ((HW.out _ (Kp.al (Kp.refl W5).dr1 (.cells #[.bool false, .slice none 0 0] 40))).2.2.2.2.2.1)).mono ?_); rintro e Wc ⟨p3, d3, rfl, ho5, hb5⟩; have k5 := Kp.nx (Kp.al (Kp.refl W5).dr1 (.cells #[.bool false, .slice none 0 0] 40)) hb5; have hg9 : W5.heap.size ≤ W5.drew.heap.size := Nat.le_refl _; have BN := Bk.new W5.drew #[.bool false, .slice none 0 0] 40; have B9 := BN.nx hb5; have kS := ((k5.setCell (p := ⟨W5.drew.heap.size, 0, none⟩) hg9 (.bool false)).setCell (p := ⟨W5.drew.heap.size, 1, none⟩) hg9 (.slice p3 ms.length d3)); have BV := (B9.set 0 (.bool false)).set 1 (.slice p3 ms.length d3); have HO := (((Fr.of ho5 (Nat.le_refl _)).set BN.lt 0 (.bool false)).set BN.lt 1 (.slice p3 ms.length d3)).rd; have mk0 := kS; have f0 := B9.f 0; have f1 := B9.f 1; have r0 := B9.c 0; have r1 := B9.c 1)
          | (go_at_call 71; (with_reducible refine (HB1.out _ p1 q2 d1 e2 ((HW.out _ ((Kp.refl W5).al (.cells #[.bool false, .slice none 0 0] 40)).dr1).2.2.1) ((HW.out _ ((Kp.refl W5).al (.cells #[.bool false, .slice none 0 0] 40)).dr1).2.2.2.2.2.1)).mono ?_); rintro e Wc ⟨p3, d3, rfl, ho5, hb5⟩; have k5 := Kp.nx ((Kp.refl W5).al (.cells #[.bool false, .slice none 0 0] 40)).dr1 hb5; have hg9 : W5.heap.size ≤ W5.heap.size := Nat.le_refl _; have BN := Bk.new W5 #[.bool false, .slice none 0 0] 40; have B9 := BN.nx (Kp.nx (Kp.refl _).dr1 hb5); have kS := ((k5.setCell (p := ⟨W5.heap.size, 0, none⟩) hg9 (.bool false)).setCell (p := ⟨W5.heap.size, 1, none⟩) hg9 (.slice p3 ms.length d3)); have BV := (B9.set 0 (.bool false)).set 1 (.slice p3 ms.length d3); have HO := (((Fr.of ho5 (Nat.le_refl _)).set BN.lt 0 (.bool false)).set BN.lt 1 (.slice p3 ms.length d3)).rd; have mkd := kS; have f0 := B9.f 0; have f1 := B9.f 1; have r0 := B9.c 0; have r1 := B9.c 1))
      all_goals
        first
          | (have hcase := mkz; generalize (Wc.alloc (.cells #[.bool false, .slice p3 ms.length d3] 40)) = Wb at *; obtain ⟨g9, hg8⟩ : ∃ g, Wc.heap.size = g := ⟨_, rfl⟩; simp only [hg8] at BV ⊢; exact KEY Wb g9 p3 d3 ⟨kS, by rw [← hg8]; exact hg9, BV, HO⟩)
          | (have hcase := mk0; generalize ((Wc.setCell ⟨W5.drew.heap.size, 0, none⟩ (.bool false)).setCell ⟨W5.drew.heap.size, 1, none⟩ (.slice p3 ms.length d3)) = Wb at *; obtain ⟨g9, hg8⟩ : ∃ g, W5.drew.heap.size = g := ⟨_, rfl⟩; simp only [hg8] at BV ⊢; exact KEY Wb g9 p3 d3 ⟨kS, by rw [← hg8]; exact hg9, BV, HO⟩)
          | (have hcase := mkd; generalize ((Wc.setCell ⟨W5.heap.size, 0, none⟩ (.bool false)).setCell ⟨W5.heap.size, 1, none⟩ (.slice p3 ms.length d3)) = Wb at *; obtain ⟨g9, hg8⟩ : ∃ g, W5.heap.size = g := ⟨_, rfl⟩; simp only [hg8] at BV ⊢; exact KEY Wb g9 p3 d3 ⟨kS, by rw [← hg8]; exact hg9, BV, HO⟩)
    case key =>
      intro W6 g5 p3 d3 HF
      have HX := HW
      clear HW
      have HW := Lib.hid (fun (W' : World) (hk : Kp W6 W') => show (W'.cell? ⟨w.heap.size, 0, none⟩ = some (.bool false) ∧ W'.cell? ⟨w.heap.size, 1, none⟩ = some (.slice p1 us.length d1) ∧ W'.cell? ⟨w.heap.size, 2, none⟩ = some (.slice q1 vs.length e1) ∧ W'.cell? ⟨w.heap.size + 1, 0, none⟩ = some (.bool false) ∧ W'.cell? ⟨w.heap.size + 1, 1, none⟩ = some (.slice p2 us'.length d2) ∧ W'.cell? ⟨w.heap.size + 1, 2, none⟩ = some (.slice q2 vs'.length e2)) ∧ R3 w W' #[.bool false, .slice p1 us.length d1, .slice q1 vs.length e1] 42 #[.bool false, .slice p2 us'.length d2, .slice q2 vs'.length e2] 42 #[.bool false, .slice none 0 0, .slice none 0 0] 42 ∧ Rd W' p1 d1 us ∧ Rd W' q1 e1 vs ∧ Rd W' p2 d2 us' ∧ Rd W' q2 e2 vs' ∧ Bk W' g5 #[.bool false, .slice p3 ms.length d3] 40 ∧ Rd W' p3 d3 ms from by
        have h0 := HX.out _ (Kp.nx HF.1 hk)
        exact ⟨h0.1, h0.2.1, h0.2.2.1, h0.2.2.2.1, h0.2.2.2.2.1, h0.2.2.2.2.2.1, HF.2.2.1.nx hk, HF.2.2.2.nx hk⟩)
      clear HX HF HB1
      go_wp2_with fail
      apply joinB (F := fun W g p d => Kp W6 W ∧ W6.heap.size ≤ g ∧ Bk W g #[.bool false, .slice p ms'.length d] 40 ∧ Rd W p d ms')
      case h =>
        intro KEY
        go_region_held3 (fun W => W.cell? ⟨w.heap.size, 0, none⟩ = some (.bool false) ∧ W.cell? ⟨w.heap.size, 1, none⟩ = some (.slice p1 us.length d1) ∧ W.cell? ⟨w.heap.size, 2, none⟩ = some (.slice q1 vs.length e1) ∧ W.cell? ⟨w.heap.size + 1, 0, none⟩ = some (.bool false) ∧ W.cell? ⟨w.heap.size + 1, 1, none⟩ = some (.slice p2 us'.length d2) ∧ W.cell? ⟨w.heap.size + 1, 2, none⟩ = some (.slice q2 vs'.length e2))
          (first
            | exact (HW.out _ (Kp.refl _)).1
            | exact (HW.out _ (Kp.refl _).dr1).1
            | exact (HW.out _ (Kp.al (Kp.refl _).dr1 (.cells #[.bool false, .slice none 0 0] 40))).1
            | exact (HW.out _ ((Kp.refl _).al (.cells #[.bool false, .slice none 0 0] 40)).dr1).1
            | exact (HW.out _ ((Kp.refl _).al (.cells #[.bool false, .slice none 0 0] 40))).1
            | exact (HW.out _ k5).1
            | exact (HW.out _ (Kp.al k5 (.cells #[.bool false, .slice none 0 0] 40))).1
            | exact (HW.out _ kS).1)
          (first
            | (go_at_call 71; (with_reducible refine (HB2.out _ p2 q1 d2 e1 ((HW.out _ (Kp.refl W6).dr1).2.2.2.2.1) ((HW.out _ (Kp.refl W6).dr1).2.2.2.1)).mono ?_); rintro e Wc ⟨p4, d4, rfl, ho5, hb5⟩; have k5 := Kp.nx (Kp.refl W6).dr1 hb5; have B9 := Bk.new Wc #[.bool false, .slice none 0 0] 40; have kab := Kp.al (Kp.refl Wc) (.cells #[.bool false, .slice p4 ms'.length d4] 40); have kS := Kp.nx k5 kab; have hg9 := k5.size; have BV := Bk.new Wc #[.bool false, .slice p4 ms'.length d4] 40; have HO := ho5.rd.nx kab; have mkz := kab; have f0 := B9.f 0; have f1 := B9.f 1; have r0 := B9.c 0; have r1 := B9.c 1)
            | (go_at_call 71; (with_reducible refine (HB2.out _ p2 q1 d2 e1 ((HW.out _ (Kp.al (Kp.refl W6).dr1 (.cells #[.bool false, .slice none 0 0] 40))).2.2.2.2.1) ((HW.out _ (Kp.al (Kp.refl W6).dr1 (.cells #[.bool false, .slice none 0 0] 40))).2.2.2.1)).mono ?_); rintro e Wc ⟨p4, d4, rfl, ho5, hb5⟩; have k5 := Kp.nx (Kp.al (Kp.refl W6).dr1 (.cells #[.bool false, .slice none 0 0] 40)) hb5; have hg9 : W6.heap.size ≤ W6.drew.heap.size := Nat.le_refl _; have BN := Bk.new W6.drew #[.bool false, .slice none 0 0] 40; have B9 := BN.nx hb5; have kS := ((k5.setCell (p := ⟨W6.drew.heap.size, 0, none⟩) hg9 (.bool false)).setCell (p := ⟨W6.drew.heap.size, 1, none⟩) hg9 (.slice p4 ms'.length d4)); have BV := (B9.set 0 (.bool false)).set 1 (.slice p4 ms'.length d4); have HO := (((Fr.of ho5 (Nat.le_refl _)).set BN.lt 0 (.bool false)).set BN.lt 1 (.slice p4 ms'.length d4)).rd; have mk0 := kS; have f0 := B9.f 0; have f1 := B9.f 1; have r0 := B9.c 0; have r1 := B9.c 1)
            | (go_at_call 71; (with_reducible refine (HB2.out _ p2 q1 d2 e1 ((HW.out _ ((Kp.refl W6).al (.cells #[.bool false, .slice none 0 0] 40)).dr1).2.2.2.2.1) ((HW.out _ ((Kp.refl W6).al (.cells #[.bool false, .slice none 0 0] 40)).dr1).2.2.2.1)).mono ?_); rintro e Wc ⟨p4, d4, rfl, ho5, hb5⟩; have k5 := Kp.nx ((Kp.refl W6).al (.cells #[.bool false, .slice none 0 0] 40)).dr1 hb5; have hg9 : W6.heap.size ≤ W6.heap.size := Nat.le_refl _; have BN := Bk.new W6 #[.bool false, .slice none 0 0] 40; have B9 := BN.nx (Kp.nx (Kp.refl _).dr1 hb5); have kS := ((k5.setCell (p := ⟨W6.heap.size, 0, none⟩) hg9 (.bool false)).setCell (p := ⟨W6.heap.size, 1, none⟩) hg9 (.slice p4 ms'.length d4)); have BV := (B9.set 0 (.bool false)).set 1 (.slice p4 ms'.length d4); have HO := (((Fr.of ho5 (Nat.le_refl _)).set BN.lt 0 (.bool false)).set BN.lt 1 (.slice p4 ms'.length d4)).rd; have mkd := kS; have f0 := B9.f 0; have f1 := B9.f 1; have r0 := B9.c 0; have r1 := B9.c 1))
        all_goals
          first
            | (have hcase := mkz; generalize (Wc.alloc (.cells #[.bool false, .slice p4 ms'.length d4] 40)) = Wb at *; obtain ⟨g9, hg8⟩ : ∃ g, Wc.heap.size = g := ⟨_, rfl⟩; simp only [hg8] at BV ⊢; exact KEY Wb g9 p4 d4 ⟨kS, by rw [← hg8]; exact hg9, BV, HO⟩)
            | (have hcase := mk0; generalize ((Wc.setCell ⟨W6.drew.heap.size, 0, none⟩ (.bool false)).setCell ⟨W6.drew.heap.size, 1, none⟩ (.slice p4 ms'.length d4)) = Wb at *; obtain ⟨g9, hg8⟩ : ∃ g, W6.drew.heap.size = g := ⟨_, rfl⟩; simp only [hg8] at BV ⊢; exact KEY Wb g9 p4 d4 ⟨kS, by rw [← hg8]; exact hg9, BV, HO⟩)
            | (have hcase := mkd; generalize ((Wc.setCell ⟨W6.heap.size, 0, none⟩ (.bool false)).setCell ⟨W6.heap.size, 1, none⟩ (.slice p4 ms'.length d4)) = Wb at *; obtain ⟨g9, hg8⟩ : ∃ g, W6.heap.size = g := ⟨_, rfl⟩; simp only [hg8] at BV ⊢; exact KEY Wb g9 p4 d4 ⟨kS, by rw [← hg8]; exact hg9, BV, HO⟩)
      case key =>
        intro W7 g6 p4 d4 HF
        have HX := HW
        clear HW
        have HW := Lib.hid (fun (W' : World) (hk : Kp W7 W') => show (W'.cell? ⟨w.heap.size, 0, none⟩ = some (.bool false) ∧ W'.cell? ⟨w.heap.size, 1, none⟩ = some (.slice p1 us.length d1) ∧ W'.cell? ⟨w.heap.size, 2, none⟩ = some (.slice q1 vs.length e1) ∧ W'.cell? ⟨w.heap.size + 1, 0, none⟩ = some (.bool false) ∧ W'.cell? ⟨w.heap.size + 1, 1, none⟩ = some (.slice p2 us'.length d2) ∧ W'.cell? ⟨w.heap.size + 1, 2, none⟩ = some (.slice q2 vs'.length e2) ∧ W'.cell? ⟨g5, 0, none⟩ = some (.bool false) ∧ W'.cell? ⟨g5, 1, none⟩ = some (.slice p3 ms.length d3) ∧ W'.cell? ⟨g6, 0, none⟩ = some (.bool false) ∧ W'.cell? ⟨g6, 1, none⟩ = some (.slice p4 ms'.length d4)) ∧ R3 w W' #[.bool false, .slice p1 us.length d1, .slice q1 vs.length e1] 42 #[.bool false, .slice p2 us'.length d2, .slice q2 vs'.length e2] 42 #[.bool false, .slice none 0 0, .slice none 0 0] 42 ∧ Rd W' p1 d1 us ∧ Rd W' q1 e1 vs ∧ Rd W' p2 d2 us' ∧ Rd W' q2 e2 vs' ∧ Rd W' p3 d3 ms ∧ Rd W' p4 d4 ms' from by
          have h0 := HX.out _ (Kp.nx HF.1 hk)
          have k5 := HF.2.2.1.nx hk
          have k6 := h0.2.2.2.2.2.2.1
          obtain ⟨⟨s0, s1, s2, s3, s4, s5⟩, hr, r1, r2, r3, r4, -⟩ := h0
          exact ⟨⟨s0, s1, s2, s3, s4, s5, k6.c 0, k6.c 1, k5.c 0, k5.c 1⟩, hr, r1, r2, r3, r4, (HX.out _ (Kp.nx HF.1 hk)).2.2.2.2.2.2.2, HF.2.2.2.nx hk⟩)
        clear HX HF HB2
        go_wp2_with fail
        go_region_held3 (fun W => W.cell? ⟨w.heap.size, 0, none⟩ = some (.bool false) ∧ W.cell? ⟨w.heap.size, 1, none⟩ = some (.slice p1 us.length d1) ∧ W.cell? ⟨w.heap.size, 2, none⟩ = some (.slice q1 vs.length e1) ∧ W.cell? ⟨w.heap.size + 1, 0, none⟩ = some (.bool false) ∧ W.cell? ⟨w.heap.size + 1, 1, none⟩ = some (.slice p2 us'.length d2) ∧ W.cell? ⟨w.heap.size + 1, 2, none⟩ = some (.slice q2 vs'.length e2) ∧ W.cell? ⟨g5, 0, none⟩ = some (.bool false) ∧ W.cell? ⟨g5, 1, none⟩ = some (.slice p3 ms.length d3) ∧ W.cell? ⟨g6, 0, none⟩ = some (.bool false) ∧ W.cell? ⟨g6, 1, none⟩ = some (.slice p4 ms'.length d4))
          (first
            | exact (HW.out _ (Kp.refl _)).1
            | exact (HW.out _ (Kp.refl _).dr1).1
            | exact (HW.out _ (Kp.al (Kp.refl _).dr1 (.cells #[.bool false, .slice none 0 0, .slice none 0 0] 42))).1
            | exact (HW.out _ k7).1
            | exact (HW.out _ (Kp.al k7 (.cells #[.bool false, .slice none 0 0, .slice none 0 0] 42))).1
            | exact (HW.out _ k8).1
            | exact (HW.out _ (Kp.al k8 (.cells #[.bool false, .slice none 0 0, .slice none 0 0] 42))).1
            | exact (HW.out _ k9).1
            | exact (HW.out _ (Kp.al k9 (.cells #[.bool false, .slice none 0 0, .slice none 0 0] 42))).1
            | exact (HW.out _ hK9).1)
          (first
            | (go_at_call 74; (with_reducible refine ((HA.out _ p3 p4 d3 d4) ((HW.out _ (Kp.refl W7).dr1).2.2.2.2.2.2.1) ((HW.out _ (Kp.refl W7).dr1).2.2.2.2.2.2.2)).mono ?_); rintro e W8 ⟨p5, d5, rfl, ho7, hb7⟩; have k7 := Kp.nx (Kp.refl W7).dr1 hb7; have kk7 : Kp W7.drew W8 := hb7; try (replace B9 := B9.nx hb7; replace hg9 := hg9; clear f0 f1 f2 r0 r1 r2; have f0 := B9.f 0; have f1 := B9.f 1; have f2 := B9.f 2; have r0 := B9.c 0; have r1 := B9.c 1; have r2 := B9.c 2))
            | (go_at_call 74; (with_reducible refine ((HA.out _ p3 p4 d3 d4) ((HW.out _ (Kp.al (Kp.refl W7).dr1 (.cells #[.bool false, .slice none 0 0, .slice none 0 0] 42))).2.2.2.2.2.2.1) ((HW.out _ (Kp.al (Kp.refl W7).dr1 (.cells #[.bool false, .slice none 0 0, .slice none 0 0] 42))).2.2.2.2.2.2.2)).mono ?_); rintro e W8 ⟨p5, d5, rfl, ho7, hb7⟩; have k7 := Kp.nx (Kp.al (Kp.refl W7).dr1 (.cells #[.bool false, .slice none 0 0, .slice none 0 0] 42)) hb7; have kk7 : Kp W7.drew W8 := Kp.nx (Kp.al (Kp.refl W7.drew) (.cells #[.bool false, .slice none 0 0, .slice none 0 0] 42)) hb7; have hg9 : W7.heap.size ≤ W7.drew.heap.size := ((Kp.refl W7).dr1).size; have B9 := (Bk.new W7.drew #[.bool false, .slice none 0 0, .slice none 0 0] 42).nx hb7; have mk0 := k7; have ma := k7; have f0 := B9.f 0; have f1 := B9.f 1; have f2 := B9.f 2; have r0 := B9.c 0; have r1 := B9.c 1; have r2 := B9.c 2)
            | (go_at_call 74; (with_reducible refine ((HA.out _ p3 p4 d3 d4) ((HW.out _ ((Kp.refl W7).al (.cells #[.bool false, .slice none 0 0, .slice none 0 0] 42)).dr1).2.2.2.2.2.2.1) ((HW.out _ ((Kp.refl W7).al (.cells #[.bool false, .slice none 0 0, .slice none 0 0] 42)).dr1).2.2.2.2.2.2.2)).mono ?_); rintro e W8 ⟨p5, d5, rfl, ho7, hb7⟩; have k7 := Kp.nx ((Kp.refl W7).al (.cells #[.bool false, .slice none 0 0, .slice none 0 0] 42)).dr1 hb7; have kk7 : Kp W7 W8 := k7; have hg9 : W7.heap.size ≤ W7.heap.size := Nat.le_refl _; have B9 := ((Bk.new W7 #[.bool false, .slice none 0 0, .slice none 0 0] 42).nx (Kp.refl _).dr1).nx hb7; have mkd := k7; have ma := k7; have f0 := B9.f 0; have f1 := B9.f 1; have f2 := B9.f 2; have r0 := B9.c 0; have r1 := B9.c 1; have r2 := B9.c 2)
            | (go_at_call 71; (with_reducible refine ((HMu.out _ q1 q2 e1 e2) ((HW.out _ k7).2.2.2.1) ((HW.out _ k7).2.2.2.2.2.1)).mono ?_); rintro e W9 ⟨p6, d6, rfl, ho8, hb8⟩; have k8 := Kp.nx k7 hb8; have kk8 : Kp W8 W9 := hb8; try (replace B9 := B9.nx hb8; replace hg9 := hg9; clear f0 f1 f2 r0 r1 r2; have f0 := B9.f 0; have f1 := B9.f 1; have f2 := B9.f 2; have r0 := B9.c 0; have r1 := B9.c 1; have r2 := B9.c 2))
            | (go_at_call 71; (with_reducible refine ((HMu.out _ q1 q2 e1 e2) ((HW.out _ (Kp.al k7 (.cells #[.bool false, .slice none 0 0, .slice none 0 0] 42))).2.2.2.1) ((HW.out _ (Kp.al k7 (.cells #[.bool false, .slice none 0 0, .slice none 0 0] 42))).2.2.2.2.2.1)).mono ?_); rintro e W9 ⟨p6, d6, rfl, ho8, hb8⟩; have k8 := Kp.nx (Kp.al k7 (.cells #[.bool false, .slice none 0 0, .slice none 0 0] 42)) hb8; have kk8 : Kp W8 W9 := Kp.nx (Kp.al (Kp.refl W8) (.cells #[.bool false, .slice none 0 0, .slice none 0 0] 42)) hb8; have hg9 : W7.heap.size ≤ W8.heap.size := (k7).size; have B9 := (Bk.new W8 #[.bool false, .slice none 0 0, .slice none 0 0] 42).nx hb8; have mk1 := k8; have ma := k8; have f0 := B9.f 0; have f1 := B9.f 1; have f2 := B9.f 2; have r0 := B9.c 0; have r1 := B9.c 1; have r2 := B9.c 2)
            | (go_at_call 70; (with_reducible refine ((HR.out _ p5 p6 d5 d6) ((ho7.rd.nx kk8)) ((ho8.rd))).mono ?_); rintro e Wa ⟨p7, d7, p8, d8, rfl, ho9, hoa, hb9⟩; have k9 := Kp.nx k8 hb9; have kk9 : Kp W9 Wa := hb9; have BM := B9; replace B9 := B9.nx hb9; clear f0 f1 f2 r0 r1 r2; have hK9 := Kp.put3 k9 hg9 (.bool false) (.slice p7 ps.length d7) (.slice p8 qs.length d8); have BV := B9.put3 (.bool false) (.slice p7 ps.length d7) (.slice p8 qs.length d8); have hm9 := (HW.out _ k8).2.1.sz; have HO9 := (ho9.put3 BM.lt (.bool false) (.slice p7 ps.length d7) (.slice p8 qs.length d8)).mono hm9; have HOA := (hoa.put3 BM.lt (.bool false) (.slice p7 ps.length d7) (.slice p8 qs.length d8)).mono hm9; unfold RA.put3 at hK9 BV HO9 HOA; have f0 := B9.f 0; have f1 := B9.f 1; have f2 := B9.f 2; have r0 := B9.c 0; have r1 := B9.c 1; have r2 := B9.c 2)
            | (go_at_call 70; (with_reducible refine ((HR.out _ p5 p6 d5 d6) ((ho7.rd.nx kk8)) ((ho8.rd))).mono ?_); rintro e Wa ⟨p7, d7, p8, d8, rfl, ho9, hoa, hb9⟩; have k9 := Kp.nx k8 hb9; have kk9 : Kp W9 Wa := hb9; have hm9 := (HW.out _ k8).2.1.sz; have B9 := Bk.new Wa #[.bool false, .slice none 0 0, .slice none 0 0] 42; have kab := Kp.al (Kp.refl Wa) (.cells #[.bool false, .slice p7 ps.length d7, .slice p8 qs.length d8] 42); have hK9 := Kp.nx k9 kab; have BV := Bk.new Wa #[.bool false, .slice p7 ps.length d7, .slice p8 qs.length d8] 42; have HO9 := (ho9.nx kab).mono hm9; have HOA := (hoa.nx kab).mono hm9; have mkz := kab; have f0 := B9.f 0; have f1 := B9.f 1; have f2 := B9.f 2; have r0 := B9.c 0; have r1 := B9.c 1; have r2 := B9.c 2)
            | (go_at_call 70; (with_reducible refine ((HR.out _ p5 p6 d5 d6) ((ho7.rd.nx kk8).al (.cells #[.bool false, .slice none 0 0, .slice none 0 0] 42)) ((ho8.rd).al (.cells #[.bool false, .slice none 0 0, .slice none 0 0] 42))).mono ?_); rintro e Wa ⟨p7, d7, p8, d8, rfl, ho9, hoa, hb9⟩; have k9 := Kp.nx (Kp.al k8 (.cells #[.bool false, .slice none 0 0, .slice none 0 0] 42)) hb9; have kk9 : Kp W9 Wa := Kp.nx (Kp.al (Kp.refl W9) (.cells #[.bool false, .slice none 0 0, .slice none 0 0] 42)) hb9; have hg9 : W7.heap.size ≤ W9.heap.size := (k8).size; have BM := Bk.new W9 #[.bool false, .slice none 0 0, .slice none 0 0] 42; have B9 := BM.nx hb9; have hK9 := Kp.put3 k9 hg9 (.bool false) (.slice p7 ps.length d7) (.slice p8 qs.length d8); have BV := B9.put3 (.bool false) (.slice p7 ps.length d7) (.slice p8 qs.length d8); have hm9 := (HW.out _ (Kp.al k8 (.cells #[.bool false, .slice none 0 0, .slice none 0 0] 42))).2.1.sz; have HO9 := (ho9.put3 BM.lt (.bool false) (.slice p7 ps.length d7) (.slice p8 qs.length d8)).mono hm9; have HOA := (hoa.put3 BM.lt (.bool false) (.slice p7 ps.length d7) (.slice p8 qs.length d8)).mono hm9; unfold RA.put3 at hK9 BV HO9 HOA; have mk2 := k9; have ma := k9; have f0 := B9.f 0; have f1 := B9.f 1; have f2 := B9.f 2; have r0 := B9.c 0; have r1 := B9.c 1; have r2 := B9.c 2))
        all_goals
          first
            | (have hcase := mk0; generalize (((Wa.setCell ⟨W7.drew.heap.size, 0, none⟩ (.bool false)).setCell ⟨W7.drew.heap.size, 1, none⟩ (.slice p7 ps.length d7)).setCell ⟨W7.drew.heap.size, 2, none⟩ (.slice p8 qs.length d8)) = Wb at *; obtain ⟨g9, hg8⟩ : ∃ g, W7.drew.heap.size = g := ⟨_, rfl⟩; simp only [hg8] at BV ⊢)
            | (have hcase := mkd; generalize (((Wa.setCell ⟨W7.heap.size, 0, none⟩ (.bool false)).setCell ⟨W7.heap.size, 1, none⟩ (.slice p7 ps.length d7)).setCell ⟨W7.heap.size, 2, none⟩ (.slice p8 qs.length d8)) = Wb at *; obtain ⟨g9, hg8⟩ : ∃ g, W7.heap.size = g := ⟨_, rfl⟩; simp only [hg8] at BV ⊢)
            | (have hcase := mk1; generalize (((Wa.setCell ⟨W8.heap.size, 0, none⟩ (.bool false)).setCell ⟨W8.heap.size, 1, none⟩ (.slice p7 ps.length d7)).setCell ⟨W8.heap.size, 2, none⟩ (.slice p8 qs.length d8)) = Wb at *; obtain ⟨g9, hg8⟩ : ∃ g, W8.heap.size = g := ⟨_, rfl⟩; simp only [hg8] at BV ⊢)
            | (have hcase := mk2; generalize (((Wa.setCell ⟨W9.heap.size, 0, none⟩ (.bool false)).setCell ⟨W9.heap.size, 1, none⟩ (.slice p7 ps.length d7)).setCell ⟨W9.heap.size, 2, none⟩ (.slice p8 qs.length d8)) = Wb at *; obtain ⟨g9, hg8⟩ : ∃ g, W9.heap.size = g := ⟨_, rfl⟩; simp only [hg8] at BV ⊢)
            | (have hcase := mkz; generalize (Wa.alloc (.cells #[.bool false, .slice p7 ps.length d7, .slice p8 qs.length d8] 42)) = Wb at *; obtain ⟨g9, hg8⟩ : ∃ g, Wa.heap.size = g := ⟨_, rfl⟩; simp only [hg8] at BV ⊢)
          have HRW := Lib.hid (HW.out _ hK9).2.1
          replace HO9 := Lib.hid HO9
          replace HOA := Lib.hid HOA
          have g0 := BV.c 0
          have g1 := BV.c 1
          have g2 := BV.c 2
          try clear HW HMu HR HA
          try clear ho7 ho8 ho9 hoa hb7 hb8 hb9 B9 BM BV hm9 k7 k8 k9 kk8 hK9
          have f0 : World.frozen? _ ⟨w.heap.size + 1 + 1, 0, none⟩ = false := HRW.out.b3.f 0
          have f1 : World.frozen? _ ⟨w.heap.size + 1 + 1, 1, none⟩ = false := HRW.out.b3.f 1
          have f2 : World.frozen? _ ⟨w.heap.size + 1 + 1, 2, none⟩ = false := HRW.out.b3.f 2
          have r0 : World.cell? _ ⟨w.heap.size + 1 + 1, 0, none⟩ = _ := HRW.out.b3.c 0
          have r1 : World.cell? _ ⟨w.heap.size + 1 + 1, 1, none⟩ = _ := HRW.out.b3.c 1
          have r2 : World.cell? _ ⟨w.heap.size + 1 + 1, 2, none⟩ = _ := HRW.out.b3.c 2
          go_wp2_with fail
          have RB := HRW.out.b3.put3 (.bool false) (.slice p7 ps.length d7) (.slice p8 qs.length d8)
          unfold RA.put3 at RB
          have z0 := RB.c 0
          have z1 := RB.c 1
          have z2 := RB.c 2
          refine bodyPost_ret (v := .agg #[.bool false, .slice p7 ps.length d7, .slice p8 qs.length d8]) (by simp [results, Try.results45, go_sem, z0, z1, z2]) rfl ?_
          exact ⟨_, _, _, _, rfl, (HO9.out.put3 (by omega) _ _ _).mono (by omega), (HOA.out.put3 (by omega) _ _ _).mono (by omega), Kp.put3 HRW.out.kw (by omega) _ _ _⟩
end Go.Proofs.RA
