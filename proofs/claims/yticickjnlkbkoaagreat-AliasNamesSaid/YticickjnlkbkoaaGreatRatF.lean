/- Fractions that are not below 0: count, by, and products of whole numbers. -/
import Derived.Test.YticickjnlkbkoaaGreatRatE
namespace Go.Proofs.RA
open Go.RowKit
open Go.Proofs
open Go.Proofs.NP
open Go.Proofs.SL
open Go.Proofs.NR (Fits GivesE)
set_option linter.unusedVariables false
set_option linter.unusedSimpArgs false
set_option maxRecDepth 20000
variable {w : World} {a b : Option Addr} {ca cb l k : Nat} {xs ys zs us vs : List Nat}
/-- two blocks that a call has laid -/
structure R2 (w W : World) (c1 : Array Value) (T1 : TypeId) (c2 : Array Value) (T2 : TypeId) : Prop where
  b1 : Bk W w.heap.size c1 T1
  b2 : Bk W (w.heap.size + 1) c2 T2
  kw : Kp w W
  sz : w.heap.size + 2 ≤ W.heap.size
theorem R2.new (w : World) (c1 : Array Value) (T1 : TypeId) (c2 : Array Value) (T2 : TypeId) : R2 w ((w.alloc (.cells c1 T1)).alloc (.cells c2 T2)) c1 T1 c2 T2 := by
  have b1 := Bk.new w c1 T1
  have b2 := Bk.new (w.alloc (.cells c1 T1)) c2 T2
  rw [World.size_alloc] at b2
  exact ⟨b1.nx ((Kp.refl _).al _), b2, ((Kp.refl w).al _).al _, by rw [World.size_alloc, World.size_alloc]; omega⟩
theorem R2.nx {w W W' : World} {c1 c2 : Array Value} {T1 T2 : TypeId} (h : R2 w W c1 T1 c2 T2) (hk : Kp W W') : R2 w W' c1 T1 c2 T2 := ⟨h.b1.nx hk, h.b2.nx hk, Kp.nx h.kw hk, Nat.le_trans h.sz hk.size⟩
set_option maxHeartbeats 1000000 in
theorem rcount (hx : Rd w a ca xs) (hy : Rd w b cb ys) (lx : xs.length = l) (ly : ys.length = k) (h : l ≤ 1000) (h' : k ≤ 1000) (X Y : Nat) (hX : V xs = X) (hY : V ys = Y) (h0 : Y ≠ 0) (hu : us = L (X / Nat.gcd X Y)) (hv : vs = L (Y / Nat.gcd X Y)) :
    Calls Tryz.prog 45 #[.agg #[.bool false, .slice a l ca, .slice b k cb]] w (GivesR1 w us vs) := by
  have HM := Lib.hid (fun (w1 : World) (hx : Rd w1 a ca xs) (hy : Rd w1 b cb ys) => rmake (us := us) (vs := vs) hx hy lx ly h h' X Y hX hY h0 hu hv)
  have R0 := Lib.hid (R2.new w #[.bool false, .slice a l ca, .slice b k cb] 49 #[.bool false, .slice none 0 0, .slice none 0 0] 49)
  have HX := Lib.hid hx
  have HY := Lib.hid hy
  clear hx hy lx ly hX hY h0 hu hv
  go_enter Tryz.func45, Tryz.ntmps45
  go_wp2_with fail
  generalize ((w.alloc (.cells #[.bool false, .slice a l ca, .slice b k cb] 49)).alloc (.cells #[.bool false, .slice none 0 0, .slice none 0 0] 49)) = W0 at *
  refine (HM.out _ (HX.out.nx R0.out.kw) (HY.out.nx R0.out.kw)).mono ?_; rintro e W1 ⟨p1, d1, p2, d2, rfl, ho1, ho2, hb⟩
  have HO1 := Lib.hid (ho1.mono R0.out.sz)
  have HO2 := Lib.hid (ho2.mono R0.out.sz)
  have R1 := Lib.hid (R0.out.nx hb)
  have KA := (Kp.refl W1).al (.cells #[.bool false, .slice p1 us.length d1, .slice p2 vs.length d2] 49)
  have BV := Lib.hid (Bk.new W1 #[.bool false, .slice p1 us.length d1, .slice p2 vs.length d2] 49)
  replace HO1 := Lib.hid (HO1.out.nx KA)
  replace HO2 := Lib.hid (HO2.out.nx KA)
  replace R1 := Lib.hid (R1.out.nx KA)
  have f0 := R1.out.b2.f 0
  have f1 := R1.out.b2.f 1
  have f2 := R1.out.b2.f 2
  have r0 := R1.out.b2.c 0
  have r1 := R1.out.b2.c 1
  have r2 := R1.out.b2.c 2
  clear HM R0 ho1 ho2 hb KA HX HY
  go_wp2_with fail
  have RB := R1.out.b2.put3 (.bool false) (.slice p1 us.length d1) (.slice p2 vs.length d2)
  unfold RA.put3 at RB
  have z0 := RB.c 0
  have z1 := RB.c 1
  have z2 := RB.c 2
  refine bodyPost_ret (v := .agg #[.bool false, .slice p1 us.length d1, .slice p2 vs.length d2]) (by simp [results, Tryz.results45, go_sem, z0, z1, z2]) rfl ?_
  exact ⟨_, _, _, _, rfl, (HO1.out.put3 (by omega) _ _ _).mono (by omega), (HO2.out.put3 (by omega) _ _ _).mono (by omega), Kp.put3 R1.out.kw (by omega) _ _ _⟩
/-- a whole number that is told -/
def GivesW (w : World) (zs : List Nat) (e : Ending) (w' : World) : Prop := ∃ p c, e = .returned (.agg #[.bool false, .slice p zs.length c]) ∧ Fr w.heap.size w' p c zs ∧ Kp w w'
theorem set2s {w W : World} {c1 : Array Value} {T1 : TypeId} {y0 y1 : Value} {T2 : TypeId} (h : R2 w W c1 T1 #[y0, y1] T2) (x y : Value) :
    Bk ((W.setCell ⟨w.heap.size + 1, 0, none⟩ x).setCell ⟨w.heap.size + 1, 1, none⟩ y) w.heap.size c1 T1 ∧ Bk ((W.setCell ⟨w.heap.size + 1, 0, none⟩ x).setCell ⟨w.heap.size + 1, 1, none⟩ y) (w.heap.size + 1) #[x, y] T2 :=
  ⟨(h.b1.other (by omega) 0 x).other (by omega) 1 y, (h.b2.set 0 x).set 1 y⟩
set_option maxHeartbeats 1000000 in
theorem rby (hx : Rd w a ca xs) (hy : Rd w b cb ys) (lx : xs.length = l) (ly : ys.length = k) (h : l ≤ 1000) (h' : k ≤ 1000) (X Y : Nat) (hX : V xs = X) (hY : V ys = Y) (hz : zs = L (X * Y)) :
    Calls Tryz.prog 47 #[.agg #[.bool false, .slice a l ca], .slice b k cb] w (GivesW w zs) := by
  have lz : zs.length ≤ 2000 := by
    rw [hz]; exact Nat.le_trans (Fits.mul (show Fits X l by rw [← hX]; exact Fits.of hx.ws (by omega)) (show Fits Y k by rw [← hY]; exact Fits.of hy.ws (by omega))).len (by omega)
  have HM := Lib.hid (fun (w1 : World) (hx : Rd w1 a ca xs) (hy : Rd w1 b cb ys) => NR.mul (zs := zs) hx hy lx ly (by omega) (by omega) (by rw [hX, hY]; exact hz))
  have HW := Lib.hid (fun (w1 : World) (p : Option Addr) (c : Nat) (hg : Rd w1 p c zs) => wmake (zs := zs) hg rfl (by omega) (by rw [hz, V_L]))
  have R0 := Lib.hid (R2.new w #[.bool false, .slice a l ca] 47 #[.bool false, .slice none 0 0] 47)
  have HX := Lib.hid hx
  have HY := Lib.hid hy
  clear hx hy lx ly hX hY hz
  go_enter Tryz.func47, Tryz.ntmps47
  go_wp2_with fail
  generalize ((w.alloc (.cells #[.bool false, .slice a l ca] 47)).alloc (.cells #[.bool false, .slice none 0 0] 47)) = V at *
  have HV := Lib.hid (fun (W' : World) (hk : Kp V W') => show R2 w W' #[.bool false, .slice a l ca] 47 #[.bool false, .slice none 0 0] 47 ∧ Rd W' a ca xs ∧ Rd W' b cb ys from ⟨R0.out.nx hk, HX.out.nx (Kp.nx R0.out.kw hk), HY.out.nx (Kp.nx R0.out.kw hk)⟩)
  clear R0 HX HY
  go_region_held3 (fun W => W.cell? ⟨w.heap.size, 0, none⟩ = some (.bool false) ∧ W.cell? ⟨w.heap.size, 1, none⟩ = some (.slice a l ca))
    (first
      | exact ⟨(HV.out _ (Kp.refl _)).1.b1.c 0, (HV.out _ (Kp.refl _)).1.b1.c 1⟩
      | exact ⟨(HV.out _ (Kp.refl _).dr1).1.b1.c 0, (HV.out _ (Kp.refl _).dr1).1.b1.c 1⟩
      | exact ⟨(HV.out _ k3).1.b1.c 0, (HV.out _ k3).1.b1.c 1⟩
      | exact ⟨(HV.out _ k4).1.b1.c 0, (HV.out _ k4).1.b1.c 1⟩
      | exact ⟨(set2s (HV.out _ k4).1 _ _).1.c 0, (set2s (HV.out _ k4).1 _ _).1.c 1⟩)
    (first
      | (go_at_call 48; refine (HM.out _ (HV.out _ (Kp.refl _).dr1).2.1 (HV.out _ (Kp.refl _).dr1).2.2).mono ?_; rintro e W3 ⟨p3, d3, rfl, ho3, hb3⟩; have k3 := Kp.nx (Kp.refl V).dr1 hb3)
      | (go_at_call 33; refine (HW.out _ p3 d3 ho3.rd).mono ?_; rintro e W4 ⟨p4, d4, rfl, ho4, hb4⟩; have k4 := Kp.nx k3 hb4; have f0 := (HV.out _ k4).1.b2.f 0; have f1 := (HV.out _ k4).1.b2.f 1; have r0 := (HV.out _ k4).1.b2.c 0; have r1 := (HV.out _ k4).1.b2.c 1))
  have H3 := (HV.out _ k3).1.sz
  have H4 := Lib.hid (HV.out _ k4).1
  have HO4 := Lib.hid (ho4.mono H3)
  clear HV HM HW ho3 ho4 hb3 hb4 k3 k4 H3 f0 f1 r0 r1
  go_wp2_with fail
  have RB := (set2s H4.out (.bool false) (.slice p4 zs.length d4)).2
  have z0 := RB.c 0
  have z1 := RB.c 1
  refine bodyPost_ret (v := .agg #[.bool false, .slice p4 zs.length d4]) (by simp [results, Tryz.results47, go_sem, z0, z1]) rfl ?_
  exact ⟨_, _, rfl, ((HO4.out.set (by omega) 0 _).set (by omega) 1 _).mono (by omega), (H4.out.kw.setCell (p := ⟨w.heap.size + 1, 0, none⟩) (Nat.le_succ _) _).setCell (p := ⟨w.heap.size + 1, 1, none⟩) (Nat.le_succ _) _⟩
/-- three blocks that a call has laid -/
structure R3 (w W : World) (c1 : Array Value) (T1 : TypeId) (c2 : Array Value) (T2 : TypeId) (c3 : Array Value) (T3 : TypeId) : Prop where
  b1 : Bk W w.heap.size c1 T1
  b2 : Bk W (w.heap.size + 1) c2 T2
  b3 : Bk W (w.heap.size + 1 + 1) c3 T3
  kw : Kp w W
  sz : w.heap.size + 3 ≤ W.heap.size
theorem R3.new (w : World) (c1 : Array Value) (T1 : TypeId) (c2 : Array Value) (T2 : TypeId) (c3 : Array Value) (T3 : TypeId) : R3 w (((w.alloc (.cells c1 T1)).alloc (.cells c2 T2)).alloc (.cells c3 T3)) c1 T1 c2 T2 c3 T3 := by
  have h := R2.new w c1 T1 c2 T2
  have b3 := Bk.new ((w.alloc (.cells c1 T1)).alloc (.cells c2 T2)) c3 T3
  rw [World.size_alloc, World.size_alloc] at b3
  have k := (Kp.refl ((w.alloc (.cells c1 T1)).alloc (.cells c2 T2))).al (.cells c3 T3)
  exact ⟨h.b1.nx k, h.b2.nx k, b3, Kp.nx h.kw k, by rw [World.size_alloc, World.size_alloc, World.size_alloc]; omega⟩
theorem R3.nx {w W W' : World} {c1 c2 c3 : Array Value} {T1 T2 T3 : TypeId} (h : R3 w W c1 T1 c2 T2 c3 T3) (hk : Kp W W') : R3 w W' c1 T1 c2 T2 c3 T3 := ⟨h.b1.nx hk, h.b2.nx hk, h.b3.nx hk, Kp.nx h.kw hk, Nat.le_trans h.sz hk.size⟩
theorem set3s {w W : World} {c1 c2 : Array Value} {T1 T2 : TypeId} {y0 y1 : Value} {T3 : TypeId} (h : R3 w W c1 T1 c2 T2 #[y0, y1] T3) (x y : Value) :
    Bk ((W.setCell ⟨w.heap.size + 1 + 1, 0, none⟩ x).setCell ⟨w.heap.size + 1 + 1, 1, none⟩ y) w.heap.size c1 T1 ∧ Bk ((W.setCell ⟨w.heap.size + 1 + 1, 0, none⟩ x).setCell ⟨w.heap.size + 1 + 1, 1, none⟩ y) (w.heap.size + 1) c2 T2 ∧ Bk ((W.setCell ⟨w.heap.size + 1 + 1, 0, none⟩ x).setCell ⟨w.heap.size + 1 + 1, 1, none⟩ y) (w.heap.size + 1 + 1) #[x, y] T3 :=
  ⟨(h.b1.other (by omega) 0 x).other (by omega) 1 y, (h.b2.other (by omega) 0 x).other (by omega) 1 y, (h.b3.set 0 x).set 1 y⟩
end Go.Proofs.RA
