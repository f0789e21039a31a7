/- Fractions that are not below 0: sums and products. -/
import Derived.Test.YticickjnlkbkoaaGreatRatH
namespace Go.Proofs.RA
open Go.RowKit
open Go.Proofs
open Go.Proofs.NP
open Go.Proofs.SL
open Go.Proofs.NR (Fits GivesE)
set_option linter.unusedVariables false
set_option linter.unusedSimpArgs false
set_option maxRecDepth 20000
variable {w : World} {a b a' b' : Option Addr} {ca cb ca' cb' l k l' k' : Nat} {xs ys zs us vs xs' ys' us' vs' ps qs : List Nat}
/-- ways that come to the same state go on as one -/
theorem joinR {goal : Prop} (F G : World → Option Addr → Option Addr → Option Addr → Option Addr → Nat → Nat → Nat → Nat → Prop)
    (h : (∀ W p q p' q' c d c' d', F W p q p' q' c d c' d' → G W p q p' q' c d c' d') → goal) (key : ∀ W p q p' q' c d c' d', F W p q p' q' c d c' d' → G W p q p' q' c d c' d') : goal := h key
theorem R3.all3 {w W : World} {x0 x1 x2 y0 y1 y2 : Value} {c3 : Array Value} {T1 T2 T3 : TypeId} (h : R3 w W #[x0, x1, x2] T1 #[y0, y1, y2] T2 c3 T3) :
    W.cell? ⟨w.heap.size, 0, none⟩ = some x0 ∧ W.cell? ⟨w.heap.size, 1, none⟩ = some x1 ∧ W.cell? ⟨w.heap.size, 2, none⟩ = some x2 ∧ W.cell? ⟨w.heap.size + 1, 0, none⟩ = some y0 ∧ W.cell? ⟨w.heap.size + 1, 1, none⟩ = some y1 ∧ W.cell? ⟨w.heap.size + 1, 2, none⟩ = some y2 :=
  ⟨h.b1.c 0, h.b1.c 1, h.b1.c 2, h.b2.c 0, h.b2.c 1, h.b2.c 2⟩
theorem R3.fr {w W : World} {c1 c2 c3 : Array Value} {T1 T2 T3 : TypeId} (h : R3 w W c1 T1 c2 T2 c3 T3) :
    W.frozen? ⟨w.heap.size, 0, none⟩ = false ∧ W.frozen? ⟨w.heap.size, 1, none⟩ = false ∧ W.frozen? ⟨w.heap.size, 2, none⟩ = false ∧ W.frozen? ⟨w.heap.size + 1, 0, none⟩ = false ∧ W.frozen? ⟨w.heap.size + 1, 1, none⟩ = false ∧ W.frozen? ⟨w.heap.size + 1, 2, none⟩ = false :=
  ⟨h.b1.f 0, h.b1.f 1, h.b1.f 2, h.b2.f 0, h.b2.f 1, h.b2.f 2⟩
theorem R3.put {w W : World} {x0 x1 x2 y0 y1 y2 : Value} {c3 : Array Value} {T1 T2 T3 : TypeId} (h : R3 w W #[x0, x1, x2] T1 #[y0, y1, y2] T2 c3 T3) (u0 u1 u2 v0 v1 v2 : Value) :
    R3 w (RA.put3 (RA.put3 W w.heap.size u0 u1 u2) (w.heap.size + 1) v0 v1 v2) #[u0, u1, u2] T1 #[v0, v1, v2] T2 c3 T3 :=
  ⟨(h.b1.put3 u0 u1 u2).other3 (by omega) _ _ _, (h.b2.other3 (by omega) u0 u1 u2).put3 v0 v1 v2, (h.b3.other3 (by omega) u0 u1 u2).other3 (by omega) v0 v1 v2, Kp.put3 (Kp.put3 h.kw (Nat.le_refl _) _ _ _) (Nat.le_succ _) _ _ _, by rw [size_put3, size_put3]; exact h.sz⟩
theorem R3.oth {w W : World} {c1 c2 c3 : Array Value} {T1 T2 T3 : TypeId} (h : R3 w W c1 T1 c2 T2 c3 T3) {g : Nat} (hg : w.heap.size + 3 ≤ g) (x y z : Value) : R3 w (RA.put3 W g x y z) c1 T1 c2 T2 c3 T3 :=
  ⟨h.b1.other3 (by omega) _ _ _, h.b2.other3 (by omega) _ _ _, h.b3.other3 (by omega) _ _ _, Kp.put3 h.kw (by omega) _ _ _, by rw [size_put3]; exact h.sz⟩
set_option maxHeartbeats 16000000 in
theorem radd (hx : Rd w a ca xs) (hy : Rd w b cb ys) (lx : xs.length = l) (ly : ys.length = k) (hx' : Rd w a' ca' xs') (hy' : Rd w b' cb' ys') (lx' : xs'.length = l') (ly' : ys'.length = k') (hl : l ≤ 200 ∧ k ≤ 200 ∧ l' ≤ 200 ∧ k' ≤ 200)
    (X Y X' Y' N D : Nat) (hX : V xs = X) (hY : V ys = Y) (hX' : V xs' = X') (hY' : V ys' = Y') (h0 : Y ≠ 0) (h0' : Y' ≠ 0) (hN : N = X / Nat.gcd X Y * (Y' / Nat.gcd X' Y') + X' / Nat.gcd X' Y' * (Y / Nat.gcd X Y)) (hD : D = Y / Nat.gcd X Y * (Y' / Nat.gcd X' Y')) (hp : ps = L (N / Nat.gcd N D)) (hq : qs = L (D / Nat.gcd N D)) :
    Calls Tryz.prog 29 #[.agg #[.bool false, .slice a l ca, .slice b k cb], .agg #[.bool false, .slice a' l' ca', .slice b' k' cb']] w (GivesR1 w ps qs) := by
  obtain ⟨us, hus⟩ : ∃ s, s = L (X / Nat.gcd X Y) := ⟨_, rfl⟩
  obtain ⟨vs, hvs⟩ : ∃ s, s = L (Y / Nat.gcd X Y) := ⟨_, rfl⟩
  obtain ⟨us', hus'⟩ : ∃ s, s = L (X' / Nat.gcd X' Y') := ⟨_, rfl⟩
  obtain ⟨vs', hvs'⟩ : ∃ s, s = L (Y' / Nat.gcd X' Y') := ⟨_, rfl⟩
  have FX : Fits X l := by rw [← hX]; exact Fits.of hx.ws (by omega)
  have FY : Fits Y k := by rw [← hY]; exact Fits.of hy.ws (by omega)
  have FX' : Fits X' l' := by rw [← hX']; exact Fits.of hx'.ws (by omega)
  have FY' : Fits Y' k' := by rw [← hY']; exact Fits.of hy'.ws (by omega)
  have lu : us.length ≤ 200 := by rw [hus]; exact Nat.le_trans (Fits.div FX _).len hl.1
  have lv : vs.length ≤ 200 := by rw [hvs]; exact Nat.le_trans (Fits.div FY _).len hl.2.1
  have lu' : us'.length ≤ 200 := by rw [hus']; exact Nat.le_trans (Fits.div FX' _).len hl.2.2.1
  have lv' : vs'.length ≤ 200 := by rw [hvs']; exact Nat.le_trans (Fits.div FY' _).len hl.2.2.2
  have hd1 : Y / Nat.gcd X Y ≠ 0 := by have := Nat.div_pos (Nat.gcd_le_right X (by omega : 0 < Y)) (Nat.gcd_pos_of_pos_right _ (by omega)); omega
  have hd2 : Y' / Nat.gcd X' Y' ≠ 0 := by have := Nat.div_pos (Nat.gcd_le_right X' (by omega : 0 < Y')) (Nat.gcd_pos_of_pos_right _ (by omega)); omega
  have hD0 : D ≠ 0 := by rw [hD]; exact Nat.mul_ne_zero hd1 hd2
  obtain ⟨ns, hns⟩ : ∃ s, s = L N := ⟨_, rfl⟩
  obtain ⟨ds, hds⟩ : ∃ s, s = L D := ⟨_, rfl⟩
  obtain ⟨ms, hms⟩ : ∃ s, s = L (X / Nat.gcd X Y * (Y' / Nat.gcd X' Y')) := ⟨_, rfl⟩
  obtain ⟨ms', hms'⟩ : ∃ s, s = L (X' / Nat.gcd X' Y' * (Y / Nat.gcd X Y)) := ⟨_, rfl⟩
  have lm : ms.length ≤ 400 := by rw [hms]; exact Nat.le_trans (Fits.mul (Fits.div FX _) (Fits.div FY' _)).len (by omega)
  have lm' : ms'.length ≤ 400 := by rw [hms']; exact Nat.le_trans (Fits.mul (Fits.div FX' _) (Fits.div FY _)).len (by omega)
  have ln : ns.length ≤ 900 := by rw [hns, hN]; exact Nat.le_trans (Fits.add (Fits.mul (Fits.div FX _) (Fits.div FY' _)) (Fits.mul (Fits.div FX' _) (Fits.div FY _))).len (by omega)
  have ld : ds.length ≤ 900 := by rw [hds, hD]; exact Nat.le_trans (Fits.mul (Fits.div FY _) (Fits.div FY' _)).len (by omega)
  have HC1 := Lib.hid (fun (W : World) (hx : Rd W a ca xs) (hy : Rd W b cb ys) => rcount (us := us) (vs := vs) hx hy lx ly (by omega) (by omega) X Y hX hY h0 hus hvs)
  have HC2 := Lib.hid (fun (W : World) (hx : Rd W a' ca' xs') (hy : Rd W b' cb' ys') => rcount (us := us') (vs := vs') hx hy lx' ly' (by omega) (by omega) X' Y' hX' hY' h0' hus' hvs')
  have HB1 := Lib.hid (fun (W : World) (p q : Option Addr) (c d : Nat) (h1 : Rd W p c us) (h2 : Rd W q d vs') => rby (zs := ms) h1 h2 rfl rfl (by omega) (by omega) _ _ (by rw [hus, V_L]) (by rw [hvs', V_L]) hms)
  have HB2 := Lib.hid (fun (W : World) (p q : Option Addr) (c d : Nat) (h1 : Rd W p c us') (h2 : Rd W q d vs) => rby (zs := ms') h1 h2 rfl rfl (by omega) (by omega) _ _ (by rw [hus', V_L]) (by rw [hvs, V_L]) hms')
  have HA := Lib.hid (fun (W : World) (p q : Option Addr) (c d : Nat) (h1 : Rd W p c ms) (h2 : Rd W q d ms') => wadd (zs := ns) h1 h2 rfl rfl (by omega) (by omega) (by rw [hms, hms', V_L, V_L, hns, hN]) (by omega))
  have HMu := Lib.hid (fun (W : World) (p q : Option Addr) (c d : Nat) (h1 : Rd W p c vs) (h2 : Rd W q d vs') => NR.mul (zs := ds) h1 h2 rfl rfl (by omega) (by omega) (by rw [hvs, hvs', V_L, V_L, hds, hD]))
  have HR := Lib.hid (fun (W : World) (p q : Option Addr) (c d : Nat) (h1 : Rd W p c ns) (h2 : Rd W q d ds) => rmake (us := ps) (vs := qs) h1 h2 rfl rfl (by omega) (by omega) N D (by rw [hns, V_L]) (by rw [hds, V_L]) hD0 hp hq)
  have R0 := Lib.hid (R3.new w #[.bool false, .slice a l ca, .slice b k cb] 49 #[.bool false, .slice a' l' ca', .slice b' k' cb'] 49 #[.bool false, .slice none 0 0, .slice none 0 0] 49)
  have HX := Lib.hid hx
  have HY := Lib.hid hy
  have HX' := Lib.hid hx'
  have HY' := Lib.hid hy'
  clear hx hy lx ly hX hY h0 hx' hy' lx' ly' hX' hY' h0' hus hvs hus' hvs' hms hms' FX FY FX' FY' hns hds hN hD hp hq hd1 hd2 hD0
  go_enter Tryz.func29, Tryz.ntmps29
  go_wp2_with fail
  generalize (((w.alloc (.cells #[.bool false, .slice a l ca, .slice b k cb] 49)).alloc (.cells #[.bool false, .slice a' l' ca', .slice b' k' cb'] 49)).alloc (.cells #[.bool false, .slice none 0 0, .slice none 0 0] 49)) = V at *
  have HV := Lib.hid (fun (W' : World) (hk : Kp V W') => show R3 w W' #[.bool false, .slice a l ca, .slice b k cb] 49 #[.bool false, .slice a' l' ca', .slice b' k' cb'] 49 #[.bool false, .slice none 0 0, .slice none 0 0] 49 ∧ Rd W' a ca xs ∧ Rd W' b cb ys ∧ Rd W' a' ca' xs' ∧ Rd W' b' cb' ys' from
    ⟨R0.out.nx hk, HX.out.nx (Kp.nx R0.out.kw hk), HY.out.nx (Kp.nx R0.out.kw hk), HX'.out.nx (Kp.nx R0.out.kw hk), HY'.out.nx (Kp.nx R0.out.kw hk)⟩)
  obtain ⟨v0, v1, v2, v3, v4, v5⟩ := (HV.out _ (Kp.refl _)).1.all3
  clear R0 HX HY HX' HY'
  apply joinR (F := fun W p1 q1 p2 q2 d1 e1 d2 e2 => R3 w W #[.bool false, .slice p1 us.length d1, .slice q1 vs.length e1] 49 #[.bool false, .slice p2 us'.length d2, .slice q2 vs'.length e2] 49 #[.bool false, .slice none 0 0, .slice none 0 0] 49 ∧ Rd W p1 d1 us ∧ Rd W q1 e1 vs ∧ Rd W p2 d2 us' ∧ Rd W q2 e2 vs')
  case h =>
   intro KEY
   go_region_with (first
     | (go_at_call 45; (with_reducible refine (HC1.out _ (HV.out _ (Kp.refl _).dr1).2.1 (HV.out _ (Kp.refl _).dr1).2.2.1).mono ?_); rintro e W3 ⟨p1, d1, q1, e1, rfl, ho1, ho2, hb3⟩; have k3 := Kp.nx (Kp.refl V).dr1 hb3; obtain ⟨w0, w1, w2, w3, w4, w5⟩ := (HV.out _ k3).1.all3)
     | (go_at_call 45; (with_reducible refine (HC2.out _ (HV.out _ k3).2.2.2.1 (HV.out _ k3).2.2.2.2).mono ?_); rintro e W4 ⟨p2, d2, q2, e2, rfl, ho3, ho4, hb4⟩; have k4 := Kp.nx k3 hb4; obtain ⟨f0, f1, f2, f3, f4, f5⟩ := (HV.out _ k4).1.fr; obtain ⟨x0, x1, x2, x3, x4, x5⟩ := (HV.out _ k4).1.all3))
   all_goals
     have H4 := (HV.out _ k4).1.put (.bool false) (.slice p1 us.length d1) (.slice q1 vs.length e1) (.bool false) (.slice p2 us'.length d2) (.slice q2 vs'.length e2)
     have HA1 := ((ho1.mono (show w.heap.size + 3 ≤ V.drew.heap.size from (HV.out _ (Kp.refl _).dr1).1.sz)).nx hb4).put3 (g := w.heap.size) (by omega) (.bool false) (.slice p1 us.length d1) (.slice q1 vs.length e1) |>.put3 (g := w.heap.size + 1) (by omega) (.bool false) (.slice p2 us'.length d2) (.slice q2 vs'.length e2)
     have HA2 := ((ho2.mono (show w.heap.size + 3 ≤ V.drew.heap.size from (HV.out _ (Kp.refl _).dr1).1.sz)).nx hb4).put3 (g := w.heap.size) (by omega) (.bool false) (.slice p1 us.length d1) (.slice q1 vs.length e1) |>.put3 (g := w.heap.size + 1) (by omega) (.bool false) (.slice p2 us'.length d2) (.slice q2 vs'.length e2)
     have HA3 := (ho3.mono (HV.out _ k3).1.sz).put3 (g := w.heap.size) (by omega) (.bool false) (.slice p1 us.length d1) (.slice q1 vs.length e1) |>.put3 (g := w.heap.size + 1) (by omega) (.bool false) (.slice p2 us'.length d2) (.slice q2 vs'.length e2)
     have HA4 := (ho4.mono (HV.out _ k3).1.sz).put3 (g := w.heap.size) (by omega) (.bool false) (.slice p1 us.length d1) (.slice q1 vs.length e1) |>.put3 (g := w.heap.size + 1) (by omega) (.bool false) (.slice p2 us'.length d2) (.slice q2 vs'.length e2)
     unfold RA.put3 at H4 HA1 HA2 HA3 HA4
     generalize ((((((W4.setCell ⟨w.heap.size, 0, none⟩ (.bool false)).setCell ⟨w.heap.size, 1, none⟩ (.slice p1 us.length d1)).setCell ⟨w.heap.size, 2, none⟩ (.slice q1 vs.length e1)).setCell ⟨w.heap.size + 1, 0, none⟩ (.bool false)).setCell ⟨w.heap.size + 1, 1, none⟩ (.slice p2 us'.length d2)).setCell ⟨w.heap.size + 1, 2, none⟩ (.slice q2 vs'.length e2)) = W5 at *
     exact KEY W5 p1 q1 p2 q2 d1 e1 d2 e2 ⟨H4, HA1.rd, HA2.rd, HA3.rd, HA4.rd⟩
  case key =>
    intro W5 p1 q1 p2 q2 d1 e1 d2 e2 HF
    have HW := Lib.hid (fun (W' : World) (hk : Kp W5 W') => show R3 w W' #[.bool false, .slice p1 us.length d1, .slice q1 vs.length e1] 49 #[.bool false, .slice p2 us'.length d2, .slice q2 vs'.length e2] 49 #[.bool false, .slice none 0 0, .slice none 0 0] 49 ∧ Rd W' p1 d1 us ∧ Rd W' q1 e1 vs ∧ Rd W' p2 d2 us' ∧ Rd W' q2 e2 vs' from
      ⟨HF.1.nx hk, HF.2.1.nx hk, HF.2.2.1.nx hk, HF.2.2.2.1.nx hk, HF.2.2.2.2.nx hk⟩)
    clear HV HC1 HC2 v0 v1 v2 v3 v4 v5 HF
    go_wp2_with fail
    go_region_held3 (fun W => W.cell? ⟨w.heap.size, 0, none⟩ = some (.bool false) ∧ W.cell? ⟨w.heap.size, 1, none⟩ = some (.slice p1 us.length d1) ∧ W.cell? ⟨w.heap.size, 2, none⟩ = some (.slice q1 vs.length e1) ∧ W.cell? ⟨w.heap.size + 1, 0, none⟩ = some (.bool false) ∧ W.cell? ⟨w.heap.size + 1, 1, none⟩ = some (.slice p2 us'.length d2) ∧ W.cell? ⟨w.heap.size + 1, 2, none⟩ = some (.slice q2 vs'.length e2))
      (first
        | exact (HW.out _ (Kp.refl _)).1.all3
        | exact (HW.out _ (Kp.refl _).dr1).1.all3
        | exact (HW.out _ (Kp.al (Kp.refl _).dr1 (.cells #[.bool false, .slice none 0 0, .slice none 0 0] 49))).1.all3
        | exact (HW.out _ k5).1.all3
        | exact (HW.out _ (Kp.al k5 (.cells #[.bool false, .slice none 0 0, .slice none 0 0] 49))).1.all3
        | exact (HW.out _ k6).1.all3
        | exact (HW.out _ (Kp.al k6 (.cells #[.bool false, .slice none 0 0, .slice none 0 0] 49))).1.all3
        | exact (HW.out _ k7).1.all3
        | exact (HW.out _ (Kp.al k7 (.cells #[.bool false, .slice none 0 0, .slice none 0 0] 49))).1.all3
        | exact (HW.out _ k8).1.all3
        | exact (HW.out _ (Kp.al k8 (.cells #[.bool false, .slice none 0 0, .slice none 0 0] 49))).1.all3
        | exact (HW.out _ k9).1.all3
        | exact (HW.out _ (Kp.al k9 (.cells #[.bool false, .slice none 0 0, .slice none 0 0] 49))).1.all3
        | exact H9.all3)
      (first
        | (go_at_call 47; (with_reducible refine ((HB1.out _ p1 q2 d1 e2) ((HW.out _ (Kp.refl W5).dr1).2.1) ((HW.out _ (Kp.refl W5).dr1).2.2.2.2)).mono ?_); rintro e W6 ⟨p3, d3, rfl, ho5, hb5⟩; have k5 := Kp.nx (Kp.refl W5).dr1 hb5; have kk5 : Kp W5.drew W6 := hb5; try (replace B9 := B9.nx hb5; replace hg9 := hg9; clear f0 f1 f2 r0 r1 r2; have f0 := B9.f 0; have f1 := B9.f 1; have f2 := B9.f 2; have r0 := B9.c 0; have r1 := B9.c 1; have r2 := B9.c 2))
        | (go_at_call 47; (with_reducible refine ((HB1.out _ p1 q2 d1 e2) ((HW.out _ (Kp.al (Kp.refl W5).dr1 (.cells #[.bool false, .slice none 0 0, .slice none 0 0] 49))).2.1) ((HW.out _ (Kp.al (Kp.refl W5).dr1 (.cells #[.bool false, .slice none 0 0, .slice none 0 0] 49))).2.2.2.2)).mono ?_); rintro e W6 ⟨p3, d3, rfl, ho5, hb5⟩; have k5 := Kp.nx (Kp.al (Kp.refl W5).dr1 (.cells #[.bool false, .slice none 0 0, .slice none 0 0] 49)) hb5; have kk5 : Kp W5.drew W6 := Kp.nx (Kp.al (Kp.refl W5.drew) (.cells #[.bool false, .slice none 0 0, .slice none 0 0] 49)) hb5; have hg9 := (HW.out _ (Kp.refl W5).dr1).1.sz; have B9 := (Bk.new W5.drew #[.bool false, .slice none 0 0, .slice none 0 0] 49).nx hb5; have mk0 := k5; have ma := k5; have f0 := B9.f 0; have f1 := B9.f 1; have f2 := B9.f 2; have r0 := B9.c 0; have r1 := B9.c 1; have r2 := B9.c 2)
        | (go_at_call 47; (with_reducible refine ((HB1.out _ p1 q2 d1 e2) ((HW.out _ ((Kp.refl W5).al (.cells #[.bool false, .slice none 0 0, .slice none 0 0] 49)).dr1).2.1) ((HW.out _ ((Kp.refl W5).al (.cells #[.bool false, .slice none 0 0, .slice none 0 0] 49)).dr1).2.2.2.2)).mono ?_); rintro e W6 ⟨p3, d3, rfl, ho5, hb5⟩; have k5 := Kp.nx ((Kp.refl W5).al (.cells #[.bool false, .slice none 0 0, .slice none 0 0] 49)).dr1 hb5; have kk5 : Kp W5 W6 := k5; have hg9 := (HW.out _ (Kp.refl W5)).1.sz; have B9 := ((Bk.new W5 #[.bool false, .slice none 0 0, .slice none 0 0] 49).nx (Kp.refl _).dr1).nx hb5; have mkd := k5; have ma := k5; have f0 := B9.f 0; have f1 := B9.f 1; have f2 := B9.f 2; have r0 := B9.c 0; have r1 := B9.c 1; have r2 := B9.c 2)
        | (go_at_call 47; (with_reducible refine ((HB2.out _ p2 q1 d2 e1) ((HW.out _ k5).2.2.2.1) ((HW.out _ k5).2.2.1)).mono ?_); rintro e W7 ⟨p4, d4, rfl, ho6, hb6⟩; have k6 := Kp.nx k5 hb6; have kk6 : Kp W6 W7 := hb6; try (replace B9 := B9.nx hb6; replace hg9 := hg9; clear f0 f1 f2 r0 r1 r2; have f0 := B9.f 0; have f1 := B9.f 1; have f2 := B9.f 2; have r0 := B9.c 0; have r1 := B9.c 1; have r2 := B9.c 2))
        | (go_at_call 47; (with_reducible refine ((HB2.out _ p2 q1 d2 e1) ((HW.out _ (Kp.al k5 (.cells #[.bool false, .slice none 0 0, .slice none 0 0] 49))).2.2.2.1) ((HW.out _ (Kp.al k5 (.cells #[.bool false, .slice none 0 0, .slice none 0 0] 49))).2.2.1)).mono ?_); rintro e W7 ⟨p4, d4, rfl, ho6, hb6⟩; have k6 := Kp.nx (Kp.al k5 (.cells #[.bool false, .slice none 0 0, .slice none 0 0] 49)) hb6; have kk6 : Kp W6 W7 := Kp.nx (Kp.al (Kp.refl W6) (.cells #[.bool false, .slice none 0 0, .slice none 0 0] 49)) hb6; have hg9 := (HW.out _ k5).1.sz; have B9 := (Bk.new W6 #[.bool false, .slice none 0 0, .slice none 0 0] 49).nx hb6; have mk1 := k6; have ma := k6; have f0 := B9.f 0; have f1 := B9.f 1; have f2 := B9.f 2; have r0 := B9.c 0; have r1 := B9.c 1; have r2 := B9.c 2)
        | (go_at_call 46; (with_reducible refine ((HA.out _ p3 p4 d3 d4) ((ho5.rd.nx kk6)) ((ho6.rd))).mono ?_); rintro e W8 ⟨p5, d5, rfl, ho7, hb7⟩; have k7 := Kp.nx k6 hb7; have kk7 : Kp W7 W8 := hb7; try (replace B9 := B9.nx hb7; replace hg9 := hg9; clear f0 f1 f2 r0 r1 r2; have f0 := B9.f 0; have f1 := B9.f 1; have f2 := B9.f 2; have r0 := B9.c 0; have r1 := B9.c 1; have r2 := B9.c 2))
        | (go_at_call 46; (with_reducible refine ((HA.out _ p3 p4 d3 d4) ((ho5.rd.nx kk6).al (.cells #[.bool false, .slice none 0 0, .slice none 0 0] 49)) ((ho6.rd).al (.cells #[.bool false, .slice none 0 0, .slice none 0 0] 49))).mono ?_); rintro e W8 ⟨p5, d5, rfl, ho7, hb7⟩; have k7 := Kp.nx (Kp.al k6 (.cells #[.bool false, .slice none 0 0, .slice none 0 0] 49)) hb7; have kk7 : Kp W7 W8 := Kp.nx (Kp.al (Kp.refl W7) (.cells #[.bool false, .slice none 0 0, .slice none 0 0] 49)) hb7; have hg9 := (HW.out _ k6).1.sz; have B9 := (Bk.new W7 #[.bool false, .slice none 0 0, .slice none 0 0] 49).nx hb7; have mk2 := k7; have ma := k7; have f0 := B9.f 0; have f1 := B9.f 1; have f2 := B9.f 2; have r0 := B9.c 0; have r1 := B9.c 1; have r2 := B9.c 2)
        | (go_at_call 48; (with_reducible refine ((HMu.out _ q1 q2 e1 e2) ((HW.out _ k7).2.2.1) ((HW.out _ k7).2.2.2.2)).mono ?_); rintro e W9 ⟨p6, d6, rfl, ho8, hb8⟩; have k8 := Kp.nx k7 hb8; have kk8 : Kp W8 W9 := hb8; try (replace B9 := B9.nx hb8; replace hg9 := hg9; clear f0 f1 f2 r0 r1 r2; have f0 := B9.f 0; have f1 := B9.f 1; have f2 := B9.f 2; have r0 := B9.c 0; have r1 := B9.c 1; have r2 := B9.c 2))
        | (go_at_call 48; (with_reducible refine ((HMu.out _ q1 q2 e1 e2) ((HW.out _ (Kp.al k7 (.cells #[.bool false, .slice none 0 0, .slice none 0 0] 49))).2.2.1) ((HW.out _ (Kp.al k7 (.cells #[.bool false, .slice none 0 0, .slice none 0 0] 49))).2.2.2.2)).mono ?_); rintro e W9 ⟨p6, d6, rfl, ho8, hb8⟩; have k8 := Kp.nx (Kp.al k7 (.cells #[.bool false, .slice none 0 0, .slice none 0 0] 49)) hb8; have kk8 : Kp W8 W9 := Kp.nx (Kp.al (Kp.refl W8) (.cells #[.bool false, .slice none 0 0, .slice none 0 0] 49)) hb8; have hg9 := (HW.out _ k7).1.sz; have B9 := (Bk.new W8 #[.bool false, .slice none 0 0, .slice none 0 0] 49).nx hb8; have mk3 := k8; have ma := k8; have f0 := B9.f 0; have f1 := B9.f 1; have f2 := B9.f 2; have r0 := B9.c 0; have r1 := B9.c 1; have r2 := B9.c 2)
        | (go_at_call 32; (with_reducible refine ((HR.out _ p5 p6 d5 d6) ((ho7.rd.nx kk8)) ((ho8.rd))).mono ?_); rintro e Wa ⟨p7, d7, p8, d8, rfl, ho9, hoa, hb9⟩; have k9 := Kp.nx k8 hb9; have kk9 : Kp W9 Wa := hb9; have BM := B9; replace B9 := B9.nx hb9; clear f0 f1 f2 r0 r1 r2; have H9 := (HW.out _ k9).1.oth hg9 (.bool false) (.slice p7 ps.length d7) (.slice p8 qs.length d8); have BV := B9.put3 (.bool false) (.slice p7 ps.length d7) (.slice p8 qs.length d8); have hm9 := (HW.out _ k8).1.sz; have HO9 := (ho9.put3 BM.lt (.bool false) (.slice p7 ps.length d7) (.slice p8 qs.length d8)).mono hm9; have HOA := (hoa.put3 BM.lt (.bool false) (.slice p7 ps.length d7) (.slice p8 qs.length d8)).mono hm9; unfold RA.put3 at H9 BV HO9 HOA; have f0 := B9.f 0; have f1 := B9.f 1; have f2 := B9.f 2; have r0 := B9.c 0; have r1 := B9.c 1; have r2 := B9.c 2)
        | (go_at_call 32; (with_reducible refine ((HR.out _ p5 p6 d5 d6) ((ho7.rd.nx kk8)) ((ho8.rd))).mono ?_); rintro e Wa ⟨p7, d7, p8, d8, rfl, ho9, hoa, hb9⟩; have k9 := Kp.nx k8 hb9; have kk9 : Kp W9 Wa := hb9; have hm9 := (HW.out _ k8).1.sz; have B9 := Bk.new Wa #[.bool false, .slice none 0 0, .slice none 0 0] 49; have k9a := Kp.al k9 (.cells #[.bool false, .slice none 0 0, .slice none 0 0] 49); have kab := Kp.al (Kp.refl Wa) (.cells #[.bool false, .slice p7 ps.length d7, .slice p8 qs.length d8] 49); have kad := Kp.nx k9 kab; have H9 := (HW.out _ kad).1; have BV := Bk.new Wa #[.bool false, .slice p7 ps.length d7, .slice p8 qs.length d8] 49; have HO9 := (ho9.nx kab).mono hm9; have HOA := (hoa.nx kab).mono hm9; have mkz := kab; have f0 := B9.f 0; have f1 := B9.f 1; have f2 := B9.f 2; have r0 := B9.c 0; have r1 := B9.c 1; have r2 := B9.c 2)
        | (go_at_call 32; (with_reducible refine ((HR.out _ p5 p6 d5 d6) ((ho7.rd.nx kk8).al (.cells #[.bool false, .slice none 0 0, .slice none 0 0] 49)) ((ho8.rd).al (.cells #[.bool false, .slice none 0 0, .slice none 0 0] 49))).mono ?_); rintro e Wa ⟨p7, d7, p8, d8, rfl, ho9, hoa, hb9⟩; have k9 := Kp.nx (Kp.al k8 (.cells #[.bool false, .slice none 0 0, .slice none 0 0] 49)) hb9; have kk9 : Kp W9 Wa := Kp.nx (Kp.al (Kp.refl W9) (.cells #[.bool false, .slice none 0 0, .slice none 0 0] 49)) hb9; have hg9 := (HW.out _ k8).1.sz; have BM := Bk.new W9 #[.bool false, .slice none 0 0, .slice none 0 0] 49; have B9 := BM.nx hb9; have H9 := (HW.out _ k9).1.oth hg9 (.bool false) (.slice p7 ps.length d7) (.slice p8 qs.length d8); have BV := B9.put3 (.bool false) (.slice p7 ps.length d7) (.slice p8 qs.length d8); have hm9 := (HW.out _ (Kp.al k8 (.cells #[.bool false, .slice none 0 0, .slice none 0 0] 49))).1.sz; have HO9 := (ho9.put3 BM.lt (.bool false) (.slice p7 ps.length d7) (.slice p8 qs.length d8)).mono hm9; have HOA := (hoa.put3 BM.lt (.bool false) (.slice p7 ps.length d7) (.slice p8 qs.length d8)).mono hm9; unfold RA.put3 at H9 BV HO9 HOA; have mk4 := k9; have ma := k9; have f0 := B9.f 0; have f1 := B9.f 1; have f2 := B9.f 2; have r0 := B9.c 0; have r1 := B9.c 1; have r2 := B9.c 2))
    clear HB1 HB2
    all_goals
      first
        | (have hcase := mk0; generalize (((Wa.setCell ⟨W5.drew.heap.size, 0, none⟩ (.bool false)).setCell ⟨W5.drew.heap.size, 1, none⟩ (.slice p7 ps.length d7)).setCell ⟨W5.drew.heap.size, 2, none⟩ (.slice p8 qs.length d8)) = Wb at *; obtain ⟨g9, hg8⟩ : ∃ g, W5.drew.heap.size = g := ⟨_, rfl⟩; simp only [hg8] at BV ⊢)
        | (have hcase := mkd; generalize (((Wa.setCell ⟨W5.heap.size, 0, none⟩ (.bool false)).setCell ⟨W5.heap.size, 1, none⟩ (.slice p7 ps.length d7)).setCell ⟨W5.heap.size, 2, none⟩ (.slice p8 qs.length d8)) = Wb at *; obtain ⟨g9, hg8⟩ : ∃ g, W5.heap.size = g := ⟨_, rfl⟩; simp only [hg8] at BV ⊢)
        | (have hcase := mk1; generalize (((Wa.setCell ⟨W6.heap.size, 0, none⟩ (.bool false)).setCell ⟨W6.heap.size, 1, none⟩ (.slice p7 ps.length d7)).setCell ⟨W6.heap.size, 2, none⟩ (.slice p8 qs.length d8)) = Wb at *; obtain ⟨g9, hg8⟩ : ∃ g, W6.heap.size = g := ⟨_, rfl⟩; simp only [hg8] at BV ⊢)
        | (have hcase := mk2; generalize (((Wa.setCell ⟨W7.heap.size, 0, none⟩ (.bool false)).setCell ⟨W7.heap.size, 1, none⟩ (.slice p7 ps.length d7)).setCell ⟨W7.heap.size, 2, none⟩ (.slice p8 qs.length d8)) = Wb at *; obtain ⟨g9, hg8⟩ : ∃ g, W7.heap.size = g := ⟨_, rfl⟩; simp only [hg8] at BV ⊢)
        | (have hcase := mk3; generalize (((Wa.setCell ⟨W8.heap.size, 0, none⟩ (.bool false)).setCell ⟨W8.heap.size, 1, none⟩ (.slice p7 ps.length d7)).setCell ⟨W8.heap.size, 2, none⟩ (.slice p8 qs.length d8)) = Wb at *; obtain ⟨g9, hg8⟩ : ∃ g, W8.heap.size = g := ⟨_, rfl⟩; simp only [hg8] at BV ⊢)
        | (have hcase := mk4; generalize (((Wa.setCell ⟨W9.heap.size, 0, none⟩ (.bool false)).setCell ⟨W9.heap.size, 1, none⟩ (.slice p7 ps.length d7)).setCell ⟨W9.heap.size, 2, none⟩ (.slice p8 qs.length d8)) = Wb at *; obtain ⟨g9, hg8⟩ : ∃ g, W9.heap.size = g := ⟨_, rfl⟩; simp only [hg8] at BV ⊢)
        | (have hcase := mkz; generalize (Wa.alloc (.cells #[.bool false, .slice p7 ps.length d7, .slice p8 qs.length d8] 49)) = Wb at *; obtain ⟨g9, hg8⟩ : ∃ g, Wa.heap.size = g := ⟨_, rfl⟩; simp only [hg8] at BV ⊢)
      have HRW := Lib.hid H9
      replace HO9 := Lib.hid HO9
      replace HOA := Lib.hid HOA
      have g0 := BV.c 0
      have g1 := BV.c 1
      have g2 := BV.c 2
      try clear HW HMu HR HA
      try clear ho7 ho8 ho9 hoa hb7 hb8 hb9 B9 BM BV hm9 k7 k8 k9 kk8 H9
      have f0 : World.frozen? _ ⟨w.heap.size + 1 + 1, 0, none⟩ = false := HRW.out.b3.f 0
      have f1 : World.frozen? _ ⟨w.heap.size + 1 + 1, 1, none⟩ = false := HRW.out.b3.f 1
      have f2 : World.frozen? _ ⟨w.heap.size + 1 + 1, 2, none⟩ = false := HRW.out.b3.f 2
      have r0 : World.cell? _ ⟨w.heap.size + 1 + 1, 0, none⟩ = _ := HRW.out.b3.c 0
      have r1 : World.cell? _ ⟨w.heap.size + 1 + 1, 1, none⟩ = _ := HRW.out.b3.c 1
      have r2 : World.cell? _ ⟨w.heap.size + 1 + 1, 2, none⟩ = _ := HRW.out.b3.c 2
      go_wp2_with fail
      have RB := HRW.out.b3.put3 (.bool false) (.slice p7 ps.length d7) (.slice p8 qs.length d8)
      unfold RA.put3 at RB
      have z0 := RB.c 0
      have z1 := RB.c 1
      have z2 := RB.c 2
      refine bodyPost_ret (v := .agg #[.bool false, .slice p7 ps.length d7, .slice p8 qs.length d8]) (by simp [results, Tryz.results29, go_sem, z0, z1, z2]) rfl ?_
      exact ⟨_, _, _, _, rfl, (HO9.out.put3 (by omega) _ _ _).mono (by omega), (HOA.out.put3 (by omega) _ _ _).mono (by omega), Kp.put3 HRW.out.kw (by omega) _ _ _⟩
end Go.Proofs.RA
