/- Fractions that are not below 0: Cmp, sums, products. -/
import Derived.Test.YtelanfafgcnpmaaRatF
import Derived.BigRegion
namespace Go.Proofs.RA
open Go.RowKit
open Go.Proofs
open Go.Proofs.NP
open Go.Proofs.SL
open Go.Proofs.NR (Fits GivesE)
set_option linter.unusedVariables false
set_option linter.unusedSimpArgs false
set_option maxRecDepth 20000
variable {w : World} {a b a' b' : Option Addr} {ca cb ca' cb' l k l' k' : Nat} {xs ys zs us vs xs' ys' us' vs' : List Nat}
theorem R2.all3 {w W : World} {x0 x1 x2 y0 y1 y2 : Value} {T1 T2 : TypeId} (h : R2 w W #[x0, x1, x2] T1 #[y0, y1, y2] T2) :
    W.cell? ⟨w.heap.size, 0, none⟩ = some x0 ∧ W.cell? ⟨w.heap.size, 1, none⟩ = some x1 ∧ W.cell? ⟨w.heap.size, 2, none⟩ = some x2 ∧ W.cell? ⟨w.heap.size + 1, 0, none⟩ = some y0 ∧ W.cell? ⟨w.heap.size + 1, 1, none⟩ = some y1 ∧ W.cell? ⟨w.heap.size + 1, 2, none⟩ = some y2 :=
  ⟨h.b1.c 0, h.b1.c 1, h.b1.c 2, h.b2.c 0, h.b2.c 1, h.b2.c 2⟩
theorem R2.fr {w W : World} {c1 c2 : Array Value} {T1 T2 : TypeId} (h : R2 w W c1 T1 c2 T2) :
    W.frozen? ⟨w.heap.size, 0, none⟩ = false ∧ W.frozen? ⟨w.heap.size, 1, none⟩ = false ∧ W.frozen? ⟨w.heap.size, 2, none⟩ = false ∧ W.frozen? ⟨w.heap.size + 1, 0, none⟩ = false ∧ W.frozen? ⟨w.heap.size + 1, 1, none⟩ = false ∧ W.frozen? ⟨w.heap.size + 1, 2, none⟩ = false :=
  ⟨h.b1.f 0, h.b1.f 1, h.b1.f 2, h.b2.f 0, h.b2.f 1, h.b2.f 2⟩
theorem Bk.other3 {W : World} {b g : Nat} {cs : Array Value} {T : TypeId} (h : Bk W b cs T) (hne : b ≠ g) (x y z : Value) : Bk (RA.put3 W g x y z) b cs T := ((h.other hne 0 x).other hne 1 y).other hne 2 z
theorem size_put3 (W : World) (g : Nat) (x y z : Value) : (RA.put3 W g x y z).heap.size = W.heap.size := by
  unfold RA.put3
  rw [World.size_setCell, World.size_setCell, World.size_setCell]
theorem R2.put {w W : World} {x0 x1 x2 y0 y1 y2 : Value} {T1 T2 : TypeId} (h : R2 w W #[x0, x1, x2] T1 #[y0, y1, y2] T2) (u0 u1 u2 v0 v1 v2 : Value) :
    R2 w (RA.put3 (RA.put3 W w.heap.size u0 u1 u2) (w.heap.size + 1) v0 v1 v2) #[u0, u1, u2] T1 #[v0, v1, v2] T2 :=
  ⟨(h.b1.put3 u0 u1 u2).other3 (by omega) _ _ _, (h.b2.other3 (by omega) u0 u1 u2).put3 v0 v1 v2, Kp.put3 (Kp.put3 h.kw (Nat.le_refl _) _ _ _) (Nat.le_succ _) _ _ _, by rw [size_put3, size_put3]; exact h.sz⟩
set_option maxHeartbeats 4000000 in
theorem rcmp (hx : Rd w a ca xs) (hy : Rd w b cb ys) (lx : xs.length = l) (ly : ys.length = k) (hx' : Rd w a' ca' xs') (hy' : Rd w b' cb' ys') (lx' : xs'.length = l') (ly' : ys'.length = k') (hl : l ≤ 500 ∧ k ≤ 500 ∧ l' ≤ 500 ∧ k' ≤ 500)
    (X Y X' Y' : Nat) (hX : V xs = X) (hY : V ys = Y) (hX' : V xs' = X') (hY' : V ys' = Y') (h0 : Y ≠ 0) (h0' : Y' ≠ 0) (z : Int) (hz : z = NT.cmpI (X / Nat.gcd X Y * (Y' / Nat.gcd X' Y')) (X' / Nat.gcd X' Y' * (Y / Nat.gcd X Y))) :
    Calls Try.prog 29 #[.agg #[.bool false, .slice a l ca, .slice b k cb], .agg #[.bool false, .slice a' l' ca', .slice b' k' cb']] w fun e w' => e = .returned (.int .i64 z) ∧ Kp w w' := by
  obtain ⟨us, hus⟩ : ∃ s, s = L (X / Nat.gcd X Y) := ⟨_, rfl⟩
  obtain ⟨vs, hvs⟩ : ∃ s, s = L (Y / Nat.gcd X Y) := ⟨_, rfl⟩
  obtain ⟨us', hus'⟩ : ∃ s, s = L (X' / Nat.gcd X' Y') := ⟨_, rfl⟩
  obtain ⟨vs', hvs'⟩ : ∃ s, s = L (Y' / Nat.gcd X' Y') := ⟨_, rfl⟩
  have FX : Fits X l := by rw [← hX]; exact Fits.of hx.ws (by omega)
  have FY : Fits Y k := by rw [← hY]; exact Fits.of hy.ws (by omega)
  have FX' : Fits X' l' := by rw [← hX']; exact Fits.of hx'.ws (by omega)
  have FY' : Fits Y' k' := by rw [← hY']; exact Fits.of hy'.ws (by omega)
  have lu : us.length ≤ 500 := by rw [hus]; exact Nat.le_trans (Fits.div FX _).len hl.1
  have lv : vs.length ≤ 500 := by rw [hvs]; exact Nat.le_trans (Fits.div FY _).len hl.2.1
  have lu' : us'.length ≤ 500 := by rw [hus']; exact Nat.le_trans (Fits.div FX' _).len hl.2.2.1
  have lv' : vs'.length ≤ 500 := by rw [hvs']; exact Nat.le_trans (Fits.div FY' _).len hl.2.2.2
  obtain ⟨ms, hms⟩ : ∃ s, s = L (X / Nat.gcd X Y * (Y' / Nat.gcd X' Y')) := ⟨_, rfl⟩
  obtain ⟨ms', hms'⟩ : ∃ s, s = L (X' / Nat.gcd X' Y' * (Y / Nat.gcd X Y)) := ⟨_, rfl⟩
  have lm : ms.length ≤ 1000 := by rw [hms]; exact Nat.le_trans (Fits.mul (Fits.div FX _) (Fits.div FY' _)).len (by omega)
  have lm' : ms'.length ≤ 1000 := by rw [hms']; exact Nat.le_trans (Fits.mul (Fits.div FX' _) (Fits.div FY _)).len (by omega)
  have HC1 := Lib.hid (fun (W : World) (hx : Rd W a ca xs) (hy : Rd W b cb ys) => rcount (us := us) (vs := vs) hx hy lx ly (by omega) (by omega) X Y hX hY h0 hus hvs)
  have HC2 := Lib.hid (fun (W : World) (hx : Rd W a' ca' xs') (hy : Rd W b' cb' ys') => rcount (us := us') (vs := vs') hx hy lx' ly' (by omega) (by omega) X' Y' hX' hY' h0' hus' hvs')
  have HB1 := Lib.hid (fun (W : World) (p q : Option Addr) (c d : Nat) (h1 : Rd W p c us) (h2 : Rd W q d vs') => rby (zs := ms) h1 h2 rfl rfl (by omega) (by omega) _ _ (by rw [hus, V_L]) (by rw [hvs', V_L]) hms)
  have HB2 := Lib.hid (fun (W : World) (p q : Option Addr) (c d : Nat) (h1 : Rd W p c us') (h2 : Rd W q d vs) => rby (zs := ms') h1 h2 rfl rfl (by omega) (by omega) _ _ (by rw [hus', V_L]) (by rw [hvs, V_L]) hms')
  have HCm := Lib.hid (fun (W : World) (p q : Option Addr) (c d : Nat) (h1 : Rd W p c ms) (h2 : Rd W q d ms') => wcmp h1 h2 rfl rfl (by omega) (by omega) z (by rw [hms, hms', V_L, V_L]; exact hz))
  have R0 := Lib.hid (R2.new w #[.bool false, .slice a l ca, .slice b k cb] 28 #[.bool false, .slice a' l' ca', .slice b' k' cb'] 28)
  have HX := Lib.hid hx
  have HY := Lib.hid hy
  have HX' := Lib.hid hx'
  have HY' := Lib.hid hy'
  clear hx hy lx ly hX hY h0 hx' hy' lx' ly' hX' hY' h0' hus hvs hus' hvs' hms hms' FX FY FX' FY' hz
  go_enter Try.func29, Try.ntmps29
  go_wp2_with fail
  generalize ((w.alloc (.cells #[.bool false, .slice a l ca, .slice b k cb] 28)).alloc (.cells #[.bool false, .slice a' l' ca', .slice b' k' cb'] 28)) = V at *
  have HV := Lib.hid (fun (W' : World) (hk : Kp V W') => show R2 w W' #[.bool false, .slice a l ca, .slice b k cb] 28 #[.bool false, .slice a' l' ca', .slice b' k' cb'] 28 ∧ Rd W' a ca xs ∧ Rd W' b cb ys ∧ Rd W' a' ca' xs' ∧ Rd W' b' cb' ys' from
    ⟨R0.out.nx hk, HX.out.nx (Kp.nx R0.out.kw hk), HY.out.nx (Kp.nx R0.out.kw hk), HX'.out.nx (Kp.nx R0.out.kw hk), HY'.out.nx (Kp.nx R0.out.kw hk)⟩)
  obtain ⟨v0, v1, v2, v3, v4, v5⟩ := (HV.out _ (Kp.refl _)).1.all3
  clear R0 HX HY HX' HY'
  go_region_with (first
    | (go_at_call 55; (with_reducible refine (HC1.out _ (HV.out _ (Kp.refl _).dr1).2.1 (HV.out _ (Kp.refl _).dr1).2.2.1).mono ?_); rintro e W3 ⟨p1, d1, q1, e1, rfl, ho1, ho2, hb3⟩; have k3 := Kp.nx (Kp.refl V).dr1 hb3; obtain ⟨w0, w1, w2, w3, w4, w5⟩ := (HV.out _ k3).1.all3)
    | (go_at_call 55; (with_reducible refine (HC2.out _ (HV.out _ k3).2.2.2.1 (HV.out _ k3).2.2.2.2).mono ?_); rintro e W4 ⟨p2, d2, q2, e2, rfl, ho3, ho4, hb4⟩; have k4 := Kp.nx k3 hb4; obtain ⟨f0, f1, f2, f3, f4, f5⟩ := (HV.out _ k4).1.fr; obtain ⟨x0, x1, x2, x3, x4, x5⟩ := (HV.out _ k4).1.all3))
  all_goals
    have H4 := (HV.out _ k4).1.put (.bool false) (.slice p1 us.length d1) (.slice q1 vs.length e1) (.bool false) (.slice p2 us'.length d2) (.slice q2 vs'.length e2)
    have HA1 := ((ho1.mono (show w.heap.size + 2 ≤ V.drew.heap.size from (HV.out _ (Kp.refl _).dr1).1.sz)).nx hb4).put3 (g := w.heap.size) (by omega) (.bool false) (.slice p1 us.length d1) (.slice q1 vs.length e1) |>.put3 (g := w.heap.size + 1) (by omega) (.bool false) (.slice p2 us'.length d2) (.slice q2 vs'.length e2)
    have HA2 := ((ho2.mono (show w.heap.size + 2 ≤ V.drew.heap.size from (HV.out _ (Kp.refl _).dr1).1.sz)).nx hb4).put3 (g := w.heap.size) (by omega) (.bool false) (.slice p1 us.length d1) (.slice q1 vs.length e1) |>.put3 (g := w.heap.size + 1) (by omega) (.bool false) (.slice p2 us'.length d2) (.slice q2 vs'.length e2)
    have HA3 := (ho3.mono (HV.out _ k3).1.sz).put3 (g := w.heap.size) (by omega) (.bool false) (.slice p1 us.length d1) (.slice q1 vs.length e1) |>.put3 (g := w.heap.size + 1) (by omega) (.bool false) (.slice p2 us'.length d2) (.slice q2 vs'.length e2)
    have HA4 := (ho4.mono (HV.out _ k3).1.sz).put3 (g := w.heap.size) (by omega) (.bool false) (.slice p1 us.length d1) (.slice q1 vs.length e1) |>.put3 (g := w.heap.size + 1) (by omega) (.bool false) (.slice p2 us'.length d2) (.slice q2 vs'.length e2)
    unfold RA.put3 at H4 HA1 HA2 HA3 HA4
    generalize ((((((W4.setCell ⟨w.heap.size, 0, none⟩ (.bool false)).setCell ⟨w.heap.size, 1, none⟩ (.slice p1 us.length d1)).setCell ⟨w.heap.size, 2, none⟩ (.slice q1 vs.length e1)).setCell ⟨w.heap.size + 1, 0, none⟩ (.bool false)).setCell ⟨w.heap.size + 1, 1, none⟩ (.slice p2 us'.length d2)).setCell ⟨w.heap.size + 1, 2, none⟩ (.slice q2 vs'.length e2)) = W5 at *
    have HW := Lib.hid (fun (W' : World) (hk : Kp W5 W') => show R2 w W' #[.bool false, .slice p1 us.length d1, .slice q1 vs.length e1] 28 #[.bool false, .slice p2 us'.length d2, .slice q2 vs'.length e2] 28 ∧ Rd W' p1 d1 us ∧ Rd W' q1 e1 vs ∧ Rd W' p2 d2 us' ∧ Rd W' q2 e2 vs' from
      ⟨H4.nx hk, HA1.rd.nx hk, HA2.rd.nx hk, HA3.rd.nx hk, HA4.rd.nx hk⟩)
    clear HV ho1 ho2 ho3 ho4 hb3 hb4 k3 k4 H4 HA1 HA2 HA3 HA4 HC1 HC2 v0 v1 v2 v3 v4 v5 w0 w1 w2 w3 w4 w5 f0 f1 f2 f3 f4 f5 x0 x1 x2 x3 x4 x5
    go_wp2_with fail
    go_region_held3 (fun W => W.cell? ⟨w.heap.size, 0, none⟩ = some (.bool false) ∧ W.cell? ⟨w.heap.size, 1, none⟩ = some (.slice p1 us.length d1) ∧ W.cell? ⟨w.heap.size, 2, none⟩ = some (.slice q1 vs.length e1) ∧ W.cell? ⟨w.heap.size + 1, 0, none⟩ = some (.bool false) ∧ W.cell? ⟨w.heap.size + 1, 1, none⟩ = some (.slice p2 us'.length d2) ∧ W.cell? ⟨w.heap.size + 1, 2, none⟩ = some (.slice q2 vs'.length e2))
      (first
        | exact (HW.out _ (Kp.refl _)).1.all3
        | exact (HW.out _ (Kp.refl _).dr1).1.all3
        | exact (HW.out _ k5).1.all3
        | exact (HW.out _ k6).1.all3
        | exact (HW.out _ k7).1.all3)
      (first
        | (go_at_call 57; (with_reducible refine (HB1.out _ p1 q2 d1 e2 (HW.out _ (Kp.refl _).dr1).2.1 (HW.out _ (Kp.refl _).dr1).2.2.2.2).mono ?_); rintro e W6 ⟨p3, d3, rfl, ho5, hb5⟩; have k5 := Kp.nx (Kp.refl W5).dr1 hb5)
        | (go_at_call 57; (with_reducible refine (HB2.out _ p2 q1 d2 e1 (HW.out _ k5).2.2.2.1 (HW.out _ k5).2.2.1).mono ?_); rintro e W7 ⟨p4, d4, rfl, ho6, hb6⟩; have k6 := Kp.nx k5 hb6)
        | (go_at_call 56; (with_reducible refine (HCm.out _ p3 p4 d3 d4 (ho5.rd.nx hb6) ho6.rd).mono ?_); rintro e W8 ⟨rfl, hb7⟩; have k7 := Kp.nx k6 hb7))
    have K8 := Lib.hid (HW.out _ k7).1.kw
    clear HW HB1 HB2 HCm ho5 ho6 hb5 hb6 hb7 k5 k6 k7
    go_wp2_with fail
    go_ret
    exact ⟨rfl, K8.out⟩
end Go.Proofs.RA
