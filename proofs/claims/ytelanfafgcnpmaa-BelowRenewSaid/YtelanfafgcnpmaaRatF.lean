/- Fractions that are not below 0: count, by, and products of whole numbers. -/
import Derived.Test.YtelanfafgcnpmaaRatE
namespace Go.Proofs.RA
open Go.RowKit
open Go.Proofs
open Go.Proofs.NP
open Go.Proofs.SL
open Go.Proofs.NR (Fits GivesE)
set_option linter.unusedVariables false
set_option linter.unusedSimpArgs false
set_option maxRecDepth 20000
variable {w : World} {a b : Option Addr} {ca cb l k : Nat} {xs ys zs us vs : List Nat}
/-- two blocks that a call has laid -/
structure R2 (w W : World) (c1 : Array Value) (T1 : TypeId) (c2 : Array Value) (T2 : TypeId) : Prop where
  b1 : Bk W w.heap.size c1 T1
  b2 : Bk W (w.heap.size + 1) c2 T2
  kw : Kp w W
  sz : w.heap.size + 2 ≤ W.heap.size
theorem R2.new (w : World) (c1 : Array Value) (T1 : TypeId) (c2 : Array Value) (T2 : TypeId) : R2 w ((w.alloc (.cells c1 T1)).alloc (.cells c2 T2)) c1 T1 c2 T2 := by
  have b1 := Bk.new w c1 T1
  have b2 := Bk.new (w.alloc (.cells c1 T1)) c2 T2
  rw [World.size_alloc] at b2
  exact ⟨b1.nx ((Kp.refl _).al _), b2, ((Kp.refl w).al _).al _, by rw [World.size_alloc, World.size_alloc]; omega⟩
theorem R2.nx {w W W' : World} {c1 c2 : Array Value} {T1 T2 : TypeId} (h : R2 w W c1 T1 c2 T2) (hk : Kp W W') : R2 w W' c1 T1 c2 T2 := ⟨h.b1.nx hk, h.b2.nx hk, Kp.nx h.kw hk, Nat.le_trans h.sz hk.size⟩
set_option maxHeartbeats 1000000 in
theorem rcount (hx : Rd w a ca xs) (hy : Rd w b cb ys) (lx : xs.length = l) (ly : ys.length = k) (h : l ≤ 1000) (h' : k ≤ 1000) (X Y : Nat) (hX : V xs = X) (hY : V ys = Y) (h0 : Y ≠ 0) (hu : us = L (X / Nat.gcd X Y)) (hv : vs = L (Y / Nat.gcd X Y)) :
    Calls Try.prog 55 #[.agg #[.bool false, .slice a l ca, .slice b k cb]] w (GivesR1 w us vs) := by
  have HM := Lib.hid (fun (w1 : World) (hx : Rd w1 a ca xs) (hy : Rd w1 b cb ys) => rmake (us := us) (vs := vs) hx hy lx ly h h' X Y hX hY h0 hu hv)
  have R0 := Lib.hid (R2.new w #[.bool false, .slice a l ca, .slice b k cb] 28 #[.bool false, .slice none 0 0, .slice none 0 0] 28)
  have HX := Lib.hid hx
  have HY := Lib.hid hy
  clear hx hy lx ly hX hY h0 hu hv
  go_enter Try.func55, Try.ntmps55
  go_wp2_with fail
  generalize ((w.alloc (.cells #[.bool false, .slice a l ca, .slice b k cb] 28)).alloc (.cells #[.bool false, .slice none 0 0, .slice none 0 0] 28)) = W0 at *
  refine (HM.out _ (HX.out.nx R0.out.kw) (HY.out.nx R0.out.kw)).mono ?_; rintro e W1 ⟨p1, d1, p2, d2, rfl, ho1, ho2, hb⟩
  have HO1 := Lib.hid (ho1.mono R0.out.sz)
  have HO2 := Lib.hid (ho2.mono R0.out.sz)
  have R1 := Lib.hid (R0.out.nx hb)
  have KA := (Kp.refl W1).al (.cells #[.bool false, .slice p1 us.length d1, .slice p2 vs.length d2] 28)
  have BV := Lib.hid (Bk.new W1 #[.bool false, .slice p1 us.length d1, .slice p2 vs.length d2] 28)
  replace HO1 := Lib.hid (HO1.out.nx KA)
  replace HO2 := Lib.hid (HO2.out.nx KA)
  replace R1 := Lib.hid (R1.out.nx KA)
  have f0 := R1.out.b2.f 0
  have f1 := R1.out.b2.f 1
  have f2 := R1.out.b2.f 2
  have r0 := R1.out.b2.c 0
  have r1 := R1.out.b2.c 1
  have r2 := R1.out.b2.c 2
  clear HM R0 ho1 ho2 hb KA HX HY
  go_wp2_with fail
  have RB := R1.out.b2.put3 (.bool false) (.slice p1 us.length d1) (.slice p2 vs.length d2)
  unfold RA.put3 at RB
  have z0 := RB.c 0
  have z1 := RB.c 1
  have z2 := RB.c 2
  refine bodyPost_ret (v := .agg #[.bool false, .slice p1 us.length d1, .slice p2 vs.length d2]) (by simp [results, Try.results55, go_sem, z0, z1, z2]) rfl ?_
  exact ⟨_, _, _, _, rfl, (HO1.out.put3 (by omega) _ _ _).mono (by omega), (HO2.out.put3 (by omega) _ _ _).mono (by omega), Kp.put3 R1.out.kw (by omega) _ _ _⟩
/-- a whole number that is told -/
def GivesW (w : World) (zs : List Nat) (e : Ending) (w' : World) : Prop := ∃ p c, e = .returned (.agg #[.bool false, .slice p zs.length c]) ∧ Fr w.heap.size w' p c zs ∧ Kp w w'
theorem set2s {w W : World} {c1 : Array Value} {T1 : TypeId} {y0 y1 : Value} {T2 : TypeId} (h : R2 w W c1 T1 #[y0, y1] T2) (x y : Value) :
    Bk ((W.setCell ⟨w.heap.size + 1, 0, none⟩ x).setCell ⟨w.heap.size + 1, 1, none⟩ y) w.heap.size c1 T1 ∧ Bk ((W.setCell ⟨w.heap.size + 1, 0, none⟩ x).setCell ⟨w.heap.size + 1, 1, none⟩ y) (w.heap.size + 1) #[x, y] T2 :=
  ⟨(h.b1.other (by omega) 0 x).other (by omega) 1 y, (h.b2.set 0 x).set 1 y⟩
set_option maxHeartbeats 1000000 in
theorem rby (hx : Rd w a ca xs) (hy : Rd w b cb ys) (lx : xs.length = l) (ly : ys.length = k) (h : l ≤ 1000) (h' : k ≤ 1000) (X Y : Nat) (hX : V xs = X) (hY : V ys = Y) (hz : zs = L (X * Y)) :
    Calls Try.prog 57 #[.agg #[.bool false, .slice a l ca], .slice b k cb] w (GivesW w zs) := by
  have lz : zs.length ≤ 2000 := by
    rw [hz]; exact Nat.le_trans (Fits.mul (show Fits X l by rw [← hX]; exact Fits.of hx.ws (by omega)) (show Fits Y k by rw [← hY]; exact Fits.of hy.ws (by omega))).len (by omega)
  have HM := Lib.hid (fun (w1 : World) (hx : Rd w1 a ca xs) (hy : Rd w1 b cb ys) => NR.mul (zs := zs) hx hy lx ly (by omega) (by omega) (by rw [hX, hY]; exact hz))
  have HW := Lib.hid (fun (w1 : World) (p : Option Addr) (c : Nat) (hg : Rd w1 p c zs) => wmake (zs := zs) hg rfl (by omega) (by rw [hz, V_L]))
  have R0 := Lib.hid (R2.new w #[.bool false, .slice a l ca] 26 #[.bool false, .slice none 0 0] 26)
  have HX := Lib.hid hx
  have HY := Lib.hid hy
  clear hx hy lx ly hX hY hz
  go_enter Try.func57, Try.ntmps57
  go_wp2_with fail
  generalize ((w.alloc (.cells #[.bool false, .slice a l ca] 26)).alloc (.cells #[.bool false, .slice none 0 0] 26)) = V at *
  have HV := Lib.hid (fun (W' : World) (hk : Kp V W') => show R2 w W' #[.bool false, .slice a l ca] 26 #[.bool false, .slice none 0 0] 26 ∧ Rd W' a ca xs ∧ Rd W' b cb ys from ⟨R0.out.nx hk, HX.out.nx (Kp.nx R0.out.kw hk), HY.out.nx (Kp.nx R0.out.kw hk)⟩)
  clear R0 HX HY
  go_region_held3 (fun W => W.cell? ⟨w.heap.size, 0, none⟩ = some (.bool false) ∧ W.cell? ⟨w.heap.size, 1, none⟩ = some (.slice a l ca))
    (first
      | exact ⟨(HV.out _ (Kp.refl _)).1.b1.c 0, (HV.out _ (Kp.refl _)).1.b1.c 1⟩
      | exact ⟨(HV.out _ (Kp.refl _).dr1).1.b1.c 0, (HV.out _ (Kp.refl _).dr1).1.b1.c 1⟩
      | exact ⟨(HV.out _ k3).1.b1.c 0, (HV.out _ k3).1.b1.c 1⟩
      | exact ⟨(HV.out _ k4).1.b1.c 0, (HV.out _ k4).1.b1.c 1⟩
      | exact ⟨(set2s (HV.out _ k4).1 _ _).1.c 0, (set2s (HV.out _ k4).1 _ _).1.c 1⟩)
    (first
      | (go_at_call 70; refine (HM.out _ (HV.out _ (Kp.refl _).dr1).2.1 (HV.out _ (Kp.refl _).dr1).2.2).mono ?_; rintro e W3 ⟨p3, d3, rfl, ho3, hb3⟩; have k3 := Kp.nx (Kp.refl V).dr1 hb3)
      | (go_at_call 54; refine (HW.out _ p3 d3 ho3.rd).mono ?_; rintro e W4 ⟨p4, d4, rfl, ho4, hb4⟩; have k4 := Kp.nx k3 hb4; have f0 := (HV.out _ k4).1.b2.f 0; have f1 := (HV.out _ k4).1.b2.f 1; have r0 := (HV.out _ k4).1.b2.c 0; have r1 := (HV.out _ k4).1.b2.c 1))
  have H3 := (HV.out _ k3).1.sz
  have H4 := Lib.hid (HV.out _ k4).1
  have HO4 := Lib.hid (ho4.mono H3)
  clear HV HM HW ho3 ho4 hb3 hb4 k3 k4 H3 f0 f1 r0 r1
  go_wp2_with fail
  have RB := (set2s H4.out (.bool false) (.slice p4 zs.length d4)).2
  have z0 := RB.c 0
  have z1 := RB.c 1
  refine bodyPost_ret (v := .agg #[.bool false, .slice p4 zs.length d4]) (by simp [results, Try.results57, go_sem, z0, z1]) rfl ?_
  exact ⟨_, _, rfl, ((HO4.out.set (by omega) 0 _).set (by omega) 1 _).mono (by omega), (H4.out.kw.setCell (p := ⟨w.heap.size + 1, 0, none⟩) (Nat.le_succ _) _).setCell (p := ⟨w.heap.size + 1, 1, none⟩) (Nat.le_succ _) _⟩
/-- three blocks that a call has laid -/
structure R3 (w W : World) (c1 : Array Value) (T1 : TypeId) (c2 : Array Value) (T2 : TypeId) (c3 : Array Value) (T3 : TypeId) : Prop where
  b1 : Bk W w.heap.size c1 T1
  b2 : Bk W (w.heap.size + 1) c2 T2
  b3 : Bk W (w.heap.size + 1 + 1) c3 T3
  kw : Kp w W
  sz : w.heap.size + 3 ≤ W.heap.size
theorem R3.new (w : World) (c1 : Array Value) (T1 : TypeId) (c2 : Array Value) (T2 : TypeId) (c3 : Array Value) (T3 : TypeId) : R3 w (((w.alloc (.cells c1 T1)).alloc (.cells c2 T2)).alloc (.cells c3 T3)) c1 T1 c2 T2 c3 T3 := by
  have h := R2.new w c1 T1 c2 T2
  have b3 := Bk.new ((w.alloc (.cells c1 T1)).alloc (.cells c2 T2)) c3 T3
  rw [World.size_alloc, World.size_alloc] at b3
  have k := (Kp.refl ((w.alloc (.cells c1 T1)).alloc (.cells c2 T2))).al (.cells c3 T3)
  exact ⟨h.b1.nx k, h.b2.nx k, b3, Kp.nx h.kw k, by rw [World.size_alloc, World.size_alloc, World.size_alloc]; omega⟩
theorem R3.nx {w W W' : World} {c1 c2 c3 : Array Value} {T1 T2 T3 : TypeId} (h : R3 w W c1 T1 c2 T2 c3 T3) (hk : Kp W W') : R3 w W' c1 T1 c2 T2 c3 T3 := ⟨h.b1.nx hk, h.b2.nx hk, h.b3.nx hk, Kp.nx h.kw hk, Nat.le_trans h.sz hk.size⟩
theorem set3s {w W : World} {c1 c2 : Array Value} {T1 T2 : TypeId} {y0 y1 : Value} {T3 : TypeId} (h : R3 w W c1 T1 c2 T2 #[y0, y1] T3) (x y : Value) :
    Bk ((W.setCell ⟨w.heap.size + 1 + 1, 0, none⟩ x).setCell ⟨w.heap.size + 1 + 1, 1, none⟩ y) w.heap.size c1 T1 ∧ Bk ((W.setCell ⟨w.heap.size + 1 + 1, 0, none⟩ x).setCell ⟨w.heap.size + 1 + 1, 1, none⟩ y) (w.heap.size + 1) c2 T2 ∧ Bk ((W.setCell ⟨w.heap.size + 1 + 1, 0, none⟩ x).setCell ⟨w.heap.size + 1 + 1, 1, none⟩ y) (w.heap.size + 1 + 1) #[x, y] T3 :=
  ⟨(h.b1.other (by omega) 0 x).other (by omega) 1 y, (h.b2.other (by omega) 0 x).other (by omega) 1 y, (h.b3.set 0 x).set 1 y⟩
set_option maxHeartbeats 1000000 in
theorem wmul (hx : Rd w a ca xs) (hy : Rd w b cb ys) (lx : xs.length = l) (ly : ys.length = k) (h : l ≤ 1000) (h' : k ≤ 1000) (X Y : Nat) (hX : V xs = X) (hY : V ys = Y) (hz : zs = L (X * Y)) :
    Calls Try.prog 71 #[.agg #[.bool false, .slice a l ca], .agg #[.bool false, .slice b k cb]] w (GivesW w zs) := by
  have lz : zs.length ≤ 2000 := by
    rw [hz]; exact Nat.le_trans (Fits.mul (show Fits X l by rw [← hX]; exact Fits.of hx.ws (by omega)) (show Fits Y k by rw [← hY]; exact Fits.of hy.ws (by omega))).len (by omega)
  have HM := Lib.hid (fun (w1 : World) (hx : Rd w1 a ca xs) (hy : Rd w1 b cb ys) => NR.mul (zs := zs) hx hy lx ly (by omega) (by omega) (by rw [hX, hY]; exact hz))
  have HW := Lib.hid (fun (w1 : World) (p : Option Addr) (c : Nat) (hg : Rd w1 p c zs) => wmake (zs := zs) hg rfl (by omega) (by rw [hz, V_L]))
  have R0 := Lib.hid (R3.new w #[.bool false, .slice a l ca] 26 #[.bool false, .slice b k cb] 26 #[.bool false, .slice none 0 0] 26)
  have HX := Lib.hid hx
  have HY := Lib.hid hy
  clear hx hy lx ly hX hY hz
  go_enter Try.func71, Try.ntmps71
  go_wp2_with fail
  generalize (((w.alloc (.cells #[.bool false, .slice a l ca] 26)).alloc (.cells #[.bool false, .slice b k cb] 26)).alloc (.cells #[.bool false, .slice none 0 0] 26)) = V at *
  have HV := Lib.hid (fun (W' : World) (hk : Kp V W') => show R3 w W' #[.bool false, .slice a l ca] 26 #[.bool false, .slice b k cb] 26 #[.bool false, .slice none 0 0] 26 ∧ Rd W' a ca xs ∧ Rd W' b cb ys from ⟨R0.out.nx hk, HX.out.nx (Kp.nx R0.out.kw hk), HY.out.nx (Kp.nx R0.out.kw hk)⟩)
  clear R0 HX HY
  go_region_held3 (fun W => W.cell? ⟨w.heap.size, 0, none⟩ = some (.bool false) ∧ W.cell? ⟨w.heap.size, 1, none⟩ = some (.slice a l ca) ∧ W.cell? ⟨w.heap.size + 1, 0, none⟩ = some (.bool false) ∧ W.cell? ⟨w.heap.size + 1, 1, none⟩ = some (.slice b k cb))
    (first
      | exact ⟨(HV.out _ (Kp.refl _)).1.b1.c 0, (HV.out _ (Kp.refl _)).1.b1.c 1, (HV.out _ (Kp.refl _)).1.b2.c 0, (HV.out _ (Kp.refl _)).1.b2.c 1⟩
      | exact ⟨(HV.out _ (Kp.refl _).dr1).1.b1.c 0, (HV.out _ (Kp.refl _).dr1).1.b1.c 1, (HV.out _ (Kp.refl _).dr1).1.b2.c 0, (HV.out _ (Kp.refl _).dr1).1.b2.c 1⟩
      | exact ⟨(HV.out _ k3).1.b1.c 0, (HV.out _ k3).1.b1.c 1, (HV.out _ k3).1.b2.c 0, (HV.out _ k3).1.b2.c 1⟩
      | exact ⟨(HV.out _ k4).1.b1.c 0, (HV.out _ k4).1.b1.c 1, (HV.out _ k4).1.b2.c 0, (HV.out _ k4).1.b2.c 1⟩
      | exact ⟨(set3s (HV.out _ k4).1 _ _).1.c 0, (set3s (HV.out _ k4).1 _ _).1.c 1, (set3s (HV.out _ k4).1 _ _).2.1.c 0, (set3s (HV.out _ k4).1 _ _).2.1.c 1⟩)
    (first
      | (go_at_call 70; refine (HM.out _ (HV.out _ (Kp.refl _).dr1).2.1 (HV.out _ (Kp.refl _).dr1).2.2).mono ?_; rintro e W3 ⟨p3, d3, rfl, ho3, hb3⟩; have k3 := Kp.nx (Kp.refl V).dr1 hb3)
      | (go_at_call 54; refine (HW.out _ p3 d3 ho3.rd).mono ?_; rintro e W4 ⟨p4, d4, rfl, ho4, hb4⟩; have k4 := Kp.nx k3 hb4; have f0 := (HV.out _ k4).1.b3.f 0; have f1 := (HV.out _ k4).1.b3.f 1; have r0 := (HV.out _ k4).1.b3.c 0; have r1 := (HV.out _ k4).1.b3.c 1))
  have H3 := (HV.out _ k3).1.sz
  have H4 := Lib.hid (HV.out _ k4).1
  have HO4 := Lib.hid (ho4.mono H3)
  clear HV HM HW ho3 ho4 hb3 hb4 k3 k4 H3 f0 f1 r0 r1
  go_wp2_with fail
  have RB := (set3s H4.out (.bool false) (.slice p4 zs.length d4)).2.2
  have z0 := RB.c 0
  have z1 := RB.c 1
  refine bodyPost_ret (v := .agg #[.bool false, .slice p4 zs.length d4]) (by simp [results, Try.results71, go_sem, z0, z1]) rfl ?_
  exact ⟨_, _, rfl, ((HO4.out.set (by omega) 0 _).set (by omega) 1 _).mono (by omega), (H4.out.kw.setCell (p := ⟨w.heap.size + 1 + 1, 0, none⟩) (show w.heap.size ≤ w.heap.size + 1 + 1 by omega) _).setCell (p := ⟨w.heap.size + 1 + 1, 1, none⟩) (show w.heap.size ≤ w.heap.size + 1 + 1 by omega) _⟩
/-- is it 0, or above? -/
theorem wsign (hx : Rd w a ca xs) (lx : xs.length = l) (h : l ≤ 2000) (z : Int) (hz : z = if V xs = 0 then 0 else 1) :
    Calls Try.prog 82 #[.agg #[.bool false, .slice a l ca]] w fun e w' => e = .returned (.int .i64 z) ∧ Kp w w' := by
  obtain ⟨t, ht⟩ : ∃ t : Bool, t = (V xs == 0) := ⟨_, rfl⟩
  have HZ := Lib.hid (fun (w1 : World) (hx : Rd w1 a ca xs) => NR.zero hx lx (by omega) t ht)
  have B0 := Lib.hid (Bk.new w #[.bool false, .slice a l ca] 26)
  have K0 := Lib.hid ((Kp.refl w).al (.cells #[.bool false, .slice a l ca] 26))
  have HX := Lib.hid hx
  have HE := Lib.hid (show z = if t = true then 0 else 1 by rw [hz, ht]; simp)
  clear hx lx hz ht
  go_enter Try.func82, Try.ntmps82
  go_wp2_with fail
  refine (HZ.out _ (HX.out.nx K0.out)).mono ?_; rintro e w1 ⟨rfl, rfl⟩
  clear HZ HX
  cases t
  · obtain rfl : z = 1 := HE.out
    clear HE
    go_wp2_with fail
    go_ret
    exact ⟨rfl, K0.out⟩
  · obtain rfl : z = 0 := HE.out
    clear HE
    go_wp2_with fail
    go_ret
    exact ⟨rfl, K0.out⟩
set_option maxHeartbeats 1000000 in
theorem wcmp (hx : Rd w a ca xs) (hy : Rd w b cb ys) (lx : xs.length = l) (ly : ys.length = k) (h : l ≤ 2000) (h' : k ≤ 2000) (z : Int) (hz : z = NT.cmpI (V xs) (V ys)) :
    Calls Try.prog 56 #[.agg #[.bool false, .slice a l ca], .agg #[.bool false, .slice b k cb]] w fun e w' => e = .returned (.int .i64 z) ∧ Kp w w' := by
  obtain ⟨s1, hs1⟩ : ∃ s : Int, s = if V xs = 0 then 0 else 1 := ⟨_, rfl⟩
  obtain ⟨s2, hs2⟩ : ∃ s : Int, s = if V ys = 0 then 0 else 1 := ⟨_, rfl⟩
  have HS1 := Lib.hid (fun (w1 : World) (hx : Rd w1 a ca xs) => wsign hx lx h s1 hs1)
  have HS2 := Lib.hid (fun (w1 : World) (hy : Rd w1 b cb ys) => wsign hy ly h' s2 hs2)
  have HC := Lib.hid (fun (w1 : World) (hx : Rd w1 a ca xs) (hy : Rd w1 b cb ys) => NR.cmp hx hy lx ly (by omega) (by omega) z hz)
  have hcase : (s1 = 0 ∧ s2 = 0 ∧ z = 0) ∨ (s1 = 0 ∧ s2 = 1 ∧ z = -1) ∨ (s1 = 1 ∧ s2 = 0 ∧ z = 1) ∨ (s1 = 1 ∧ s2 = 1 ∧ (z = -1 ∨ z = 0 ∨ z = 1)) := by
    rw [hs1, hs2, hz]
    unfold NT.cmpI
    by_cases h1 : V xs = 0 <;> by_cases h2 : V ys = 0 <;> simp [h1, h2]
    all_goals first
      | omega
      | (split <;> first | (simp; done) | (split <;> simp))
  have R0 := Lib.hid (R2.new w #[.bool false, .slice a l ca] 26 #[.bool false, .slice b k cb] 26)
  have HX := Lib.hid hx
  have HY := Lib.hid hy
  clear hx hy lx ly hs1 hs2 hz
  go_enter Try.func56, Try.ntmps56
  go_wp2_with fail
  generalize ((w.alloc (.cells #[.bool false, .slice a l ca] 26)).alloc (.cells #[.bool false, .slice b k cb] 26)) = V at *
  have HV := Lib.hid (fun (W' : World) (hk : Kp V W') => show R2 w W' #[.bool false, .slice a l ca] 26 #[.bool false, .slice b k cb] 26 ∧ Rd W' a ca xs ∧ Rd W' b cb ys from ⟨R0.out.nx hk, HX.out.nx (Kp.nx R0.out.kw hk), HY.out.nx (Kp.nx R0.out.kw hk)⟩)
  clear R0 HX HY
  go_region_held3 (fun W => W.cell? ⟨w.heap.size, 0, none⟩ = some (.bool false) ∧ W.cell? ⟨w.heap.size, 1, none⟩ = some (.slice a l ca) ∧ W.cell? ⟨w.heap.size + 1, 0, none⟩ = some (.bool false) ∧ W.cell? ⟨w.heap.size + 1, 1, none⟩ = some (.slice b k cb))
    (first
      | exact ⟨(HV.out _ (Kp.refl _)).1.b1.c 0, (HV.out _ (Kp.refl _)).1.b1.c 1, (HV.out _ (Kp.refl _)).1.b2.c 0, (HV.out _ (Kp.refl _)).1.b2.c 1⟩
      | exact ⟨(HV.out _ (Kp.refl _).dr1).1.b1.c 0, (HV.out _ (Kp.refl _).dr1).1.b1.c 1, (HV.out _ (Kp.refl _).dr1).1.b2.c 0, (HV.out _ (Kp.refl _).dr1).1.b2.c 1⟩
      | exact ⟨(HV.out _ k3).1.b1.c 0, (HV.out _ k3).1.b1.c 1, (HV.out _ k3).1.b2.c 0, (HV.out _ k3).1.b2.c 1⟩
      | exact ⟨(HV.out _ k4).1.b1.c 0, (HV.out _ k4).1.b1.c 1, (HV.out _ k4).1.b2.c 0, (HV.out _ k4).1.b2.c 1⟩)
    (first
      | (go_at_call 82; (with_reducible refine (HS1.out _ (HV.out _ (Kp.refl _).dr1).2.1).mono ?_); rintro e W3 ⟨rfl, hb3⟩; have k3 := Kp.nx (Kp.refl V).dr1 hb3)
      | (go_at_call 82; (with_reducible refine (HS2.out _ (HV.out _ k3).2.2).mono ?_); rintro e W4 ⟨rfl, hb4⟩; have k4 := Kp.nx k3 hb4))
  have H4 := HV.out _ k4
  have K4 := Lib.hid H4.1.kw
  have HC4 := Lib.hid (HC.out _ H4.2.1 H4.2.2)
  have q1 := H4.1.b1.c 1
  have q2 := H4.1.b2.c 1
  clear HV HS1 HS2 HC hb3 hb4 k3 k4 H4
  rcases hcase with ⟨rfl, rfl, rfl⟩ | ⟨rfl, rfl, rfl⟩ | ⟨rfl, rfl, rfl⟩ | ⟨rfl, rfl, rfl | rfl | rfl⟩
  all_goals
    go_wp2_with fail
    first
      | (go_ret; exact ⟨rfl, K4.out⟩)
      | (refine HC4.out.mono ?_; rintro e w5 ⟨rfl, rfl⟩; go_wp2_with fail; go_ret; exact ⟨rfl, K4.out⟩)
end Go.Proofs.RA
