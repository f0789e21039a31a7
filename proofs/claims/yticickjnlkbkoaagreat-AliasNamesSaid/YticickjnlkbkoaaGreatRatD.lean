/- Fractions that are not below 0: rat.Make, the document's Make, Is. -/
import Derived.Test.YticickjnlkbkoaaGreatRatB
namespace Go.Proofs.RA
open Go.RowKit
open Go.Proofs
open Go.Proofs.NP
open Go.Proofs.SL
open Go.Proofs.NR (Fits GivesE)
set_option linter.unusedVariables false
set_option linter.unusedSimpArgs false
set_option maxRecDepth 20000
variable {w : World} {a b : Option Addr} {ca cb l k : Nat} {xs ys zs us vs : List Nat}
/-- a fraction, and an error -/
def GivesRat (w : World) (us vs : List Nat) (e : Ending) (w' : World) : Prop :=
  ∃ p c q d, e = .returned (.tuple #[.agg #[.bool false, .slice p us.length c, .slice q vs.length d], .int .i64 0]) ∧ Fr w.heap.size w' p c us ∧ Fr w.heap.size w' q d vs ∧ Kp w w'
/-- a fraction -/
def GivesR1 (w : World) (us vs : List Nat) (e : Ending) (w' : World) : Prop :=
  ∃ p c q d, e = .returned (.agg #[.bool false, .slice p us.length c, .slice q vs.length d]) ∧ Fr w.heap.size w' p c us ∧ Fr w.heap.size w' q d vs ∧ Kp w w'
/-- what a call has laid for its parameter and its result -/
structure Rm (w W : World) (a : Option Addr) (l ca : Nat) : Prop where
  pb : Bk W w.heap.size #[.bool false, .slice a l ca] 47
  rb : Bk W (w.heap.size + 1) #[.bool false, .slice none 0 0, .slice none 0 0] 49
  kw : Kp w W
  sz : w.heap.size + 2 ≤ W.heap.size
theorem Rm.new (w : World) (a : Option Addr) (l ca : Nat) : Rm w ((w.alloc (.cells #[.bool false, .slice a l ca] 47)).alloc (.cells #[.bool false, .slice none 0 0, .slice none 0 0] 49)) a l ca := by
  have b1 := Bk.new w #[.bool false, .slice a l ca] 47
  have b2 := Bk.new (w.alloc (.cells #[.bool false, .slice a l ca] 47)) #[.bool false, .slice none 0 0, .slice none 0 0] 49
  rw [World.size_alloc] at b2
  exact ⟨b1.nx ((Kp.refl _).al _), b2, ((Kp.refl w).al _).al _, by rw [World.size_alloc, World.size_alloc]; omega⟩
theorem Rm.nx {w W W' : World} {a : Option Addr} {l ca : Nat} (h : Rm w W a l ca) (hk : Kp W W') : Rm w W' a l ca := ⟨h.pb.nx hk, h.rb.nx hk, Kp.nx h.kw hk, Nat.le_trans h.sz hk.size⟩
/-- the result's three cells are written -/
def put3 (W : World) (g : Nat) (x y z : Value) : World := ((W.setCell ⟨g, 0, none⟩ x).setCell ⟨g, 1, none⟩ y).setCell ⟨g, 2, none⟩ z
theorem Bk.put3 {W : World} {g : Nat} {x0 y0 z0 : Value} {T : TypeId} (h : Bk W g #[x0, y0, z0] T) (x y z : Value) : Bk (RA.put3 W g x y z) g #[x, y, z] T := ((h.set 0 x).set 1 y).set 2 z
theorem Fr.put3 {B : Nat} {W : World} {p : Option Addr} {c g : Nat} {xs : List Nat} (h : Fr B W p c xs) (hg : g < B) (x y z : Value) : Fr B (RA.put3 W g x y z) p c xs := ((h.set hg 0 x).set hg 1 y).set hg 2 z
theorem Kp.put3 {w W : World} {g : Nat} (h : Kp w W) (hg : w.heap.size ≤ g) (x y z : Value) : Kp w (RA.put3 W g x y z) := ((Below.setCell (p := ⟨g, 0, none⟩) h hg x).setCell (p := ⟨g, 1, none⟩) hg y).setCell (p := ⟨g, 2, none⟩) hg z
set_option maxHeartbeats 1000000 in
theorem rmake (hx : Rd w a ca xs) (hy : Rd w b cb ys) (lx : xs.length = l) (ly : ys.length = k) (h : l ≤ 1000) (h' : k ≤ 1000) (X Y : Nat) (hX : V xs = X) (hY : V ys = Y) (h0 : Y ≠ 0) (hu : us = L (X / Nat.gcd X Y)) (hv : vs = L (Y / Nat.gcd X Y)) :
    Calls Tryz.prog 32 #[.agg #[.bool false, .slice a l ca], .slice b k cb] w (GivesRat w us vs) := by
  obtain ⟨gs, hgs⟩ : ∃ gs, gs = L (Nat.gcd X Y) := ⟨_, rfl⟩
  have hG : 0 < Nat.gcd X Y := Nat.gcd_pos_of_pos_right _ (by omega)
  have FY : Fits Y k := by rw [← hY]; exact Fits.of hy.ws (by omega)
  have FX : Fits X l := by rw [← hX]; exact Fits.of hx.ws (by omega)
  have lg : gs.length ≤ 1000 := by rw [hgs]; exact Nat.le_trans (Fits.mono FY (Nat.gcd_le_right _ (by omega))).len h'
  have lu : us.length ≤ 1000 := by rw [hu]; exact Nat.le_trans (Fits.div FX _).len h
  have HZ := Lib.hid (fun (w1 : World) (hy : Rd w1 b cb ys) => NR.zero hy ly (by omega) false (by rw [hY]; simpa using h0))
  have HG := Lib.hid (fun (w1 : World) (hx : Rd w1 a ca xs) (hy : Rd w1 b cb ys) => QR.gcd1 (zs := gs) hx hy lx ly (by omega) (by omega) (by rw [hX, hY]; exact hgs))
  have HD1 := Lib.hid (fun (w1 : World) (p : Option Addr) (c : Nat) (hx : Rd w1 a ca xs) (hg : Rd w1 p c gs) => QR.div1 hx hg lx rfl (by omega) (by omega) us (L (X % Nat.gcd X Y)) 0 (by rw [hX, hgs, V_L]; exact hu) (by rw [hX, hgs, V_L, QR.drL, if_neg (by omega)]) (by rw [hgs, V_L, QR.dE, if_neg (by omega)]))
  have HD2 := Lib.hid (fun (w1 : World) (p : Option Addr) (c : Nat) (hy : Rd w1 b cb ys) (hg : Rd w1 p c gs) => QR.div1 hy hg ly rfl (by omega) (by omega) vs (L (Y % Nat.gcd X Y)) 0 (by rw [hY, hgs, V_L]; exact hv) (by rw [hY, hgs, V_L, QR.drL, if_neg (by omega)]) (by rw [hgs, V_L, QR.dE, if_neg (by omega)]))
  have HM := Lib.hid (fun (w1 : World) (p : Option Addr) (c : Nat) (hg : Rd w1 p c us) => wmake (zs := us) hg rfl (by omega) (by rw [hu, V_L]))
  obtain ⟨r1, hr1⟩ : ∃ r, L (X % Nat.gcd X Y) = r := ⟨_, rfl⟩
  obtain ⟨r2, hr2⟩ : ∃ r, L (Y % Nat.gcd X Y) = r := ⟨_, rfl⟩
  rw [hr1] at HD1
  rw [hr2] at HD2
  have HX := Lib.hid hx
  have HY := Lib.hid hy
  have RN0 := Lib.hid (Rm.new w a l ca)
  clear hx hy lx ly hX hY h0 hu hv hgs hr1 hr2 hG FX FY
  go_enter Tryz.func32, Tryz.ntmps32
  go_wp2_with fail
  generalize ((w.alloc (.cells #[.bool false, .slice a l ca] 47)).alloc (.cells #[.bool false, .slice none 0 0, .slice none 0 0] 49)) = W0 at *
  refine (HZ.out _ (HY.out.nx RN0.out.kw)).mono ?_; rintro e W1 ⟨rfl, rfl⟩
  have p0 := RN0.out.pb.c 0
  have p1 := RN0.out.pb.c 1
  clear HZ
  go_wp2_with fail
  refine (HG.out _ (HX.out.nx RN0.out.kw) (HY.out.nx RN0.out.kw)).mono ?_; rintro e W1 ⟨q1, d1, rfl, ho1, hb1⟩
  have HQ1 := Lib.hid ho1.rd
  have RN1 := Lib.hid (RN0.out.nx hb1)
  clear HG RN0 p0 p1 ho1 hb1
  have p0 := RN1.out.pb.c 0
  have p1 := RN1.out.pb.c 1
  go_wp2_with fail
  refine (HD1.out _ q1 d1 (HX.out.nx RN1.out.kw) HQ1.out).mono ?_; rintro e W2 ⟨q2, d2, q3, d3, rfl, ho2, ho3, -, hb2⟩
  have RN2 := Lib.hid (RN1.out.nx hb2)
  have HQ2 := Lib.hid ho2.rd
  replace HQ1 := Lib.hid (HQ1.out.nx hb2)
  clear HD1 RN1 p0 p1 ho2 ho3 hb2
  have p0 := RN2.out.pb.c 0
  have p1 := RN2.out.pb.c 1
  go_wp2_with fail
  refine (HD2.out _ q1 d1 (HY.out.nx RN2.out.kw) HQ1.out).mono ?_; rintro e W3 ⟨q4, d4, q5, d5, rfl, ho4, ho5, -, hb3⟩
  have RN3 := Lib.hid (RN2.out.nx hb3)
  have HQ4 := Lib.hid (Fr.of (B := w.heap.size + 2) ho4 RN2.out.sz)
  replace HQ2 := Lib.hid (HQ2.out.nx hb3)
  clear HD2 RN2 p0 p1 ho4 ho5 hb3 HQ1
  have p0 := RN3.out.pb.c 0
  have p1 := RN3.out.pb.c 1
  go_wp2_with fail
  refine (HM.out _ q2 d2 HQ2.out).mono ?_; rintro e W4 ⟨q6, d6, rfl, ho6, hb4⟩
  have RN4 := Lib.hid (RN3.out.nx hb4)
  replace HQ4 := Lib.hid (HQ4.out.nx hb4)
  have HQ6 := Lib.hid (ho6.mono RN3.out.sz)
  clear HM RN3 p0 p1 ho6 hb4 HQ2
  have f0 := RN4.out.rb.f 0
  have f1 := RN4.out.rb.f 1
  have f2 := RN4.out.rb.f 2
  have r0 := RN4.out.rb.c 0
  have r1' := RN4.out.rb.c 1
  have r2' := RN4.out.rb.c 2
  go_wp2_with fail
  have RB := RN4.out.rb.put3 (.bool false) (.slice q6 us.length d6) (.slice q4 vs.length d4)
  unfold RA.put3 at RB
  have z0 := RB.c 0
  have z1 := RB.c 1
  have z2 := RB.c 2
  refine bodyPost_ret (v := .tuple #[.agg #[.bool false, .slice q6 us.length d6, .slice q4 vs.length d4], .int .i64 0]) (by simp [results, Tryz.results32, go_sem, z0, z1, z2]) rfl ?_
  exact ⟨_, _, _, _, rfl, (HQ6.out.put3 (by omega) _ _ _).mono (by omega), (HQ4.out.put3 (by omega) _ _ _).mono (by omega), Kp.put3 RN4.out.kw (by omega) _ _ _⟩
theorem smake (hx : Rd w a ca xs) (lx : xs.length = l) (h : l ≤ 100000) (hz : zs = L (V xs)) :
    Calls Tryz.prog 41 #[.bool false, .slice a l ca] w fun e w' => ∃ p c, e = .returned (.agg #[.bool false, .slice p zs.length c]) ∧ Fr w.heap.size w' p c zs ∧ Kp w w' := by
  have HT := Lib.hid (fun (w1 : World) (hx : Rd w1 a ca xs) => RN.trim hx lx h hz)
  have HX := Lib.hid hx
  clear hx lx hz
  go_enter Tryz.func41, Tryz.ntmps41
  go_wp2_with fail
  have RB := Bk.new w #[.bool false, .slice none 0 0] 47
  have KA := (Kp.refl w).al (.cells #[.bool false, .slice none 0 0] 47)
  refine (HT.out _ (HX.out.nx KA)).mono ?_; rintro e w1 ⟨p1, d1, rfl, ho, hb⟩
  rw [World.size_alloc] at ho
  have HO := Lib.hid (Fr.of ho (Nat.le_refl _))
  replace RB := RB.nx hb
  have HK := Lib.hid (Kp.nx KA hb)
  have c0 := RB.c 0
  have c1 := RB.c 1
  have f0 := RB.f 0
  have f1 := RB.f 1
  have HRB := Lib.hid (show Bk _ _ #[.bool false, .slice p1 zs.length d1] _ from (RB.set 0 (.bool false)).set 1 (.slice p1 zs.length d1))
  clear HT KA RB ho hb HX
  go_wp2_with fail
  have q0 := HRB.out.c 0
  have q1 := HRB.out.c 1
  refine bodyPost_ret (v := .agg #[.bool false, .slice p1 zs.length d1]) (by simp [results, Tryz.results41, go_sem, q0, q1]) rfl ?_
  exact ⟨_, _, rfl, ((HO.out.set (Nat.lt_succ_self _) 0 _).set (Nat.lt_succ_self _) 1 _).mono (Nat.le_succ _), (HK.out.setCell (p := ⟨w.heap.size, 0, none⟩) (Nat.le_refl _) _).setCell (p := ⟨w.heap.size, 1, none⟩) (Nat.le_refl _) _⟩
set_option maxHeartbeats 1000000 in
theorem fmake (hx : Rd w a ca xs) (hy : Rd w b cb ys) (lx : xs.length = l) (ly : ys.length = k) (h : l ≤ 1000) (h' : k ≤ 1000) (X Y : Nat) (hX : V xs = X) (hY : V ys = Y) (h0 : Y ≠ 0) (hu : us = L (X / Nat.gcd X Y)) (hv : vs = L (Y / Nat.gcd X Y)) :
    Calls Tryz.prog 27 #[.agg #[.bool false, .slice a l ca], .slice b k cb] w (GivesRat w us vs) := by
  obtain ⟨gs, hgs⟩ : ∃ gs, gs = L (Nat.gcd X Y) := ⟨_, rfl⟩
  obtain ⟨ds, hds⟩ : ∃ ds, ds = L Y := ⟨_, rfl⟩
  have hG : 0 < Nat.gcd X Y := Nat.gcd_pos_of_pos_right _ (by omega)
  have FY : Fits Y k := by rw [← hY]; exact Fits.of hy.ws (by omega)
  have FX : Fits X l := by rw [← hX]; exact Fits.of hx.ws (by omega)
  have lg : gs.length ≤ 1000 := by rw [hgs]; exact Nat.le_trans (Fits.mono FY (Nat.gcd_le_right _ (by omega))).len h'
  have ld : ds.length ≤ 1000 := by rw [hds]; exact Nat.le_trans FY.len h'
  have ld0 : 0 < ds.length := by
    rcases Nat.eq_zero_or_pos ds.length with h1 | h1
    · have := List.eq_nil_of_length_eq_zero h1; rw [hds, L_nil] at this; exact absurd this h0
    · exact h1
  have lu : us.length ≤ 1000 := by rw [hu]; exact Nat.le_trans (Fits.div FX _).len h
  have HT := Lib.hid (fun (w1 : World) (hy : Rd w1 b cb ys) => RN.trim (zs := ds) hy ly (by omega) (by rw [hY]; exact hds))
  have HG := Lib.hid (fun (w1 : World) (p : Option Addr) (c : Nat) (hx : Rd w1 a ca xs) (hy : Rd w1 p c ds) => gcd6 (zs := gs) hx hy lx rfl (by omega) (by omega) (by rw [hX, hds, V_L]; exact hgs))
  have HD1 := Lib.hid (fun (w1 : World) (p : Option Addr) (c : Nat) (hx : Rd w1 a ca xs) (hg : Rd w1 p c gs) => div6 hx hg lx rfl (by omega) (by omega) (by rw [hgs, V_L]; exact hG) us (L (X % Nat.gcd X Y)) (by rw [hX, hgs, V_L]; exact hu) (by rw [hX, hgs, V_L]))
  have HD2 := Lib.hid (fun (w1 : World) (p q : Option Addr) (c d : Nat) (hy : Rd w1 p c ds) (hg : Rd w1 q d gs) => div6 hy hg rfl rfl (by omega) (by omega) (by rw [hgs, V_L]; exact hG) vs (L (Y % Nat.gcd X Y)) (by rw [hds, hgs, V_L, V_L]; exact hv) (by rw [hds, hgs, V_L, V_L]))
  have HM := Lib.hid (fun (w1 : World) (p : Option Addr) (c : Nat) (hg : Rd w1 p c us) => smake (zs := us) hg rfl (by omega) (by rw [hu, V_L]))
  obtain ⟨r1, hr1⟩ : ∃ r, L (X % Nat.gcd X Y) = r := ⟨_, rfl⟩
  obtain ⟨r2, hr2⟩ : ∃ r, L (Y % Nat.gcd X Y) = r := ⟨_, rfl⟩
  rw [hr1] at HD1
  rw [hr2] at HD2
  have HX := Lib.hid hx
  have HY := Lib.hid hy
  have RN0 := Lib.hid (Rm.new w a l ca)
  have ldb : (((ds.length : Nat) : Int) == 0) = false := by rw [beq_eq_false_iff_ne]; omega
  clear hx hy lx ly hX hY h0 hu hv hgs hr1 hr2 hG FX FY hds
  go_enter Tryz.func27, Tryz.ntmps27
  go_wp2_with fail
  generalize ((w.alloc (.cells #[.bool false, .slice a l ca] 47)).alloc (.cells #[.bool false, .slice none 0 0, .slice none 0 0] 49)) = W0 at *
  refine (HT.out _ (HY.out.nx RN0.out.kw)).mono ?_; rintro e W1 ⟨q0, d0, rfl, ho0, hb0⟩
  have RN1 := Lib.hid (RN0.out.nx hb0)
  have HQ0 := Lib.hid ho0.rd
  clear HT RN0 ho0 hb0
  have p0 := RN1.out.pb.c 0
  have p1 := RN1.out.pb.c 1
  go_wp2_with fail
  refine (HG.out _ q0 d0 (HX.out.nx RN1.out.kw) HQ0.out).mono ?_; rintro e W2 ⟨q1, d1, rfl, ho1, hb1⟩
  have HQ1 := Lib.hid ho1
  have RN2 := Lib.hid (RN1.out.nx hb1)
  replace HQ0 := Lib.hid (HQ0.out.nx hb1)
  clear HG RN1 p0 p1 ho1 hb1
  have p0 := RN2.out.pb.c 0
  have p1 := RN2.out.pb.c 1
  go_wp2_with fail
  refine (HD1.out _ q1 d1 (HX.out.nx RN2.out.kw) HQ1.out).mono ?_; rintro e W3 ⟨q2, d2, q3, d3, rfl, ho2, ho3, hb2⟩
  have RN3 := Lib.hid (RN2.out.nx hb2)
  have HQ2 := Lib.hid ho2.rd
  replace HQ1 := Lib.hid (HQ1.out.nx hb2)
  replace HQ0 := Lib.hid (HQ0.out.nx hb2)
  clear HD1 RN2 p0 p1 ho2 ho3 hb2
  have p0 := RN3.out.pb.c 0
  have p1 := RN3.out.pb.c 1
  go_wp2_with fail
  refine (HD2.out _ q0 q1 d0 d1 HQ0.out HQ1.out).mono ?_; rintro e W4 ⟨q4, d4, q5, d5, rfl, ho4, ho5, hb3⟩
  have RN4 := Lib.hid (RN3.out.nx hb3)
  have HQ4 := Lib.hid (ho4.mono RN3.out.sz)
  replace HQ2 := Lib.hid (HQ2.out.nx hb3)
  clear HD2 RN3 p0 p1 ho4 ho5 hb3 HQ1 HQ0
  have p0 := RN4.out.pb.c 0
  have p1 := RN4.out.pb.c 1
  go_wp2_with fail
  refine (HM.out _ q2 d2 HQ2.out).mono ?_; rintro e W5 ⟨q6, d6, rfl, ho6, hb4⟩
  have RN5 := Lib.hid (RN4.out.nx hb4)
  replace HQ4 := Lib.hid (HQ4.out.nx hb4)
  have HQ6 := Lib.hid (ho6.mono RN4.out.sz)
  clear HM RN4 p0 p1 ho6 hb4 HQ2
  have f0 := RN5.out.rb.f 0
  have f1 := RN5.out.rb.f 1
  have f2 := RN5.out.rb.f 2
  have r0 := RN5.out.rb.c 0
  have r1' := RN5.out.rb.c 1
  have r2' := RN5.out.rb.c 2
  go_wp2_with fail
  have RB := RN5.out.rb.put3 (.bool false) (.slice q6 us.length d6) (.slice q4 vs.length d4)
  unfold RA.put3 at RB
  have z0 := RB.c 0
  have z1 := RB.c 1
  have z2 := RB.c 2
  refine bodyPost_ret (v := .tuple #[.agg #[.bool false, .slice q6 us.length d6, .slice q4 vs.length d4], .int .i64 0]) (by simp [results, Tryz.results27, go_sem, z0, z1, z2]) rfl ?_
  exact ⟨_, _, _, _, rfl, (HQ6.out.put3 (by omega) _ _ _).mono (by omega), (HQ4.out.put3 (by omega) _ _ _).mono (by omega), Kp.put3 RN5.out.kw (by omega) _ _ _⟩
/-- the same, field by field -/
theorem is6 {a2 b2 : Option Addr} {ca2 cb2 : Nat} (hx : Rd w a ca xs) (hx2 : Rd w a2 ca2 xs) (hy : Rd w b cb ys) (hy2 : Rd w b2 cb2 ys) (lx : xs.length = l) (ly : ys.length = k) (h : l ≤ 100000) (h' : k ≤ 100000) :
    Calls Tryz.prog 16 #[.agg #[.bool false, .slice a l ca, .slice b k cb], .agg #[.bool false, .slice a2 l ca2, .slice b2 k cb2]] w fun e w' => e = .returned (.bool true) ∧ Kp w w' := by
  have HS1 := Lib.hid (fun (w1 : World) (hx : Rd w1 a ca xs) (hx2 : Rd w1 a2 ca2 xs) => NR.same_yes hx hx2 lx lx h rfl)
  have HS2 := Lib.hid (fun (w1 : World) (hy : Rd w1 b cb ys) (hy2 : Rd w1 b2 cb2 ys) => NR.same_yes hy hy2 ly ly h' rfl)
  have B1 := Bk.new w #[.bool false, .slice a l ca, .slice b k cb] 49
  have B2 := Bk.new (w.alloc (.cells #[.bool false, .slice a l ca, .slice b k cb] 49)) #[.bool false, .slice a2 l ca2, .slice b2 k cb2] 49
  rw [World.size_alloc] at B2
  have B1' := Lib.hid (B1.nx ((Kp.refl _).al (.cells #[.bool false, .slice a2 l ca2, .slice b2 k cb2] 49)))
  have B2' := Lib.hid B2
  have K0 := Lib.hid (((Kp.refl w).al (.cells #[.bool false, .slice a l ca, .slice b k cb] 49)).al (.cells #[.bool false, .slice a2 l ca2, .slice b2 k cb2] 49))
  have HX := Lib.hid hx
  have HX2 := Lib.hid hx2
  have HY := Lib.hid hy
  have HY2 := Lib.hid hy2
  clear hx hx2 hy hy2 lx ly B1 B2
  go_enter Tryz.func16, Tryz.ntmps16
  go_wp2_with fail
  refine (HS1.out _ (HX.out.nx K0.out) (HX2.out.nx K0.out)).mono ?_; rintro e w1 ⟨rfl, hb⟩
  have B3 := B1'.out.nx hb
  have B4 := B2'.out.nx hb
  have K1 := Lib.hid (Kp.nx K0.out hb)
  have p2 := B3.c 2
  have q2 := B4.c 2
  clear HS1 K0 B1' B2' B3 B4 hb HX HX2
  go_wp2_with fail
  refine (HS2.out _ (HY.out.nx K1.out) (HY2.out.nx K1.out)).mono ?_; rintro e w2 ⟨rfl, hb⟩
  have K2 := Lib.hid (Kp.nx K1.out hb)
  clear HS2 K1 hb HY HY2 p2 q2
  go_wp2_with fail
  go_ret
  exact ⟨rfl, K2.out⟩
end Go.Proofs.RA
