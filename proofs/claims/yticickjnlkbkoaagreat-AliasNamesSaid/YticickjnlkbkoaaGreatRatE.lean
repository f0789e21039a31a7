/- Fractions that are not below 0: whole.Of, rat.Of, rat.Over. -/
import Derived.Test.YticickjnlkbkoaaGreatRatD
import Derived.Deep.RegionHeld3
namespace Go.Proofs.RA
open Go.RowKit
open Go.Proofs
open Go.Proofs.NP
open Go.Proofs.SL
open Go.Proofs.NR (Fits GivesE)
set_option linter.unusedVariables false
set_option linter.unusedSimpArgs false
set_option maxRecDepth 20000
variable {w : World} {a b : Option Addr} {ca cb l k : Nat} {xs ys zs us vs : List Nat}
/-- a call has laid a block for its result -/
structure Rs (w W : World) (cs : Array Value) (T : TypeId) : Prop where
  rb : Bk W w.heap.size cs T
  kw : Kp w W
  sz : w.heap.size + 1 ≤ W.heap.size
theorem Rs.new (w : World) (cs : Array Value) (T : TypeId) : Rs w (w.alloc (.cells cs T)) cs T := ⟨Bk.new w cs T, (Kp.refl w).al _, by rw [World.size_alloc]; omega⟩
theorem Rs.nx {w W W' : World} {cs : Array Value} {T : TypeId} (h : Rs w W cs T) (hk : Kp W W') : Rs w W' cs T := ⟨h.rb.nx hk, Kp.nx h.kw hk, Nat.le_trans h.sz hk.size⟩
theorem nof (n : Nat) (w : World) (hn : n < 18446744073709551616) (hz : zs = L n) : Calls Tryz.prog 44 #[.int .u64 (n : Int)] w (Gives 66 w zs) := by subst hz; exact NR.of n w hn
theorem wof (n : Nat) (w : World) (hn : n < 9223372036854775808) (hz : zs = L n) :
    Calls Tryz.prog 31 #[.int .i64 (n : Int)] w fun e w' => ∃ p c, e = .returned (.agg #[.bool false, .slice p zs.length c]) ∧ Fr w.heap.size w' p c zs ∧ Kp w w' := by
  have HO := Lib.hid (fun w1 => nof (zs := zs) n w1 (by omega) hz)
  have lz : zs.length ≤ 1 := by rw [hz]; exact L_len _ 1 (by omega)
  have HM := Lib.hid (fun (w1 : World) (p : Option Addr) (c : Nat) (hg : Rd w1 p c zs) => wmake (zs := zs) hg rfl (by omega) (by rw [hz, V_L]))
  have hw : IntKind.u64.wrap (n : Int) = (n : Int) := W.wrapN _ (by omega)
  have h0 : ¬ ((n : Int) < 0) := by omega
  have R0 := Lib.hid (Rs.new w #[.bool false, .slice none 0 0] 47)
  clear hz
  go_enter Tryz.func31, Tryz.ntmps31
  go_wp2_with fail
  generalize (w.alloc (.cells #[.bool false, .slice none 0 0] 47)) = W0 at *
  refine (HO.out _).mono ?_; rintro e W1 ⟨p1, d1, rfl, ho, hb⟩
  have R1 := Lib.hid (R0.out.nx hb)
  have HQ := Lib.hid ho.rd
  clear HO R0 ho hb
  go_wp2_with fail
  refine (HM.out _ p1 d1 HQ.out).mono ?_; rintro e W2 ⟨p2, d2, rfl, ho, hb⟩
  have R2 := Lib.hid (R1.out.nx hb)
  have HO := Lib.hid (ho.mono R1.out.sz)
  clear HM R1 HQ ho hb
  have c0 := R2.out.rb.c 0
  have c1 := R2.out.rb.c 1
  have f0 := R2.out.rb.f 0
  have f1 := R2.out.rb.f 1
  go_wp2_with fail
  have RB := (R2.out.rb.set 0 (.bool false)).set 1 (.slice p2 zs.length d2)
  have q0 := RB.c 0
  have q1 := RB.c 1
  refine bodyPost_ret (v := .agg #[.bool false, .slice p2 zs.length d2]) (by simp [results, Tryz.results31, go_sem, q0, q1]) rfl ?_
  exact ⟨_, _, rfl, ((HO.out.set (Nat.lt_succ_self _) 0 _).set (Nat.lt_succ_self _) 1 _).mono (Nat.le_succ _), (R2.out.kw.setCell (p := ⟨w.heap.size, 0, none⟩) (Nat.le_refl _) _).setCell (p := ⟨w.heap.size, 1, none⟩) (Nat.le_refl _) _⟩
theorem ws1 : Ws [1] := ws_of _ (by decide +kernel)
theorem rone (w : World) : Calls Tryz.prog 34 #[] w fun e w' => ∃ p c, e = .returned (.slice p 1 c) ∧ Fr w.heap.size w' p c [1] ∧ Kp w w' := by
  have ho := SL.Own.lit (e := 66) (B := w.heap.size) (w := w) [1] ws1 #[.int .u64 1] rfl (Nat.le_refl _) (by decide)
  have HF := Lib.hid (Fr.of ho (Nat.le_refl _))
  have HK := Lib.hid ((Kp.refl w).al (.cells #[.int .u64 1] 66))
  clear ho
  go_enter Tryz.func34, Tryz.ntmps34
  go_wp2_with fail
  go_ret
  exact ⟨_, _, rfl, HF.out, HK.out⟩
theorem rof (n : Nat) (w : World) (hn : n < 9223372036854775808) (hz : zs = L n) :
    Calls Tryz.prog 21 #[.int .i64 (n : Int)] w (GivesR1 w zs [1]) := by
  have HO := Lib.hid (fun w1 => wof (zs := zs) n w1 hn hz)
  have R0 := Lib.hid (Rs.new w #[.bool false, .slice none 0 0, .slice none 0 0] 49)
  clear hz
  go_enter Tryz.func21, Tryz.ntmps21
  go_wp2_with fail
  generalize (w.alloc (.cells #[.bool false, .slice none 0 0, .slice none 0 0] 49)) = W0 at *
  refine (HO.out _).mono ?_; rintro e W1 ⟨p1, d1, rfl, ho, hb⟩
  have R1 := Lib.hid (R0.out.nx hb)
  have HQ := Lib.hid (ho.mono R0.out.sz)
  clear HO R0 ho hb
  go_wp2_with fail
  refine (rone _).mono ?_; rintro e W2 ⟨p2, d2, rfl, ho, hb⟩
  have R2 := Lib.hid (R1.out.nx hb)
  have HO := Lib.hid (ho.mono R1.out.sz)
  replace HQ := Lib.hid (HQ.out.nx hb)
  clear R1 ho hb
  have c0 := R2.out.rb.c 0
  have c1 := R2.out.rb.c 1
  have c2 := R2.out.rb.c 2
  have f0 := R2.out.rb.f 0
  have f1 := R2.out.rb.f 1
  have f2 := R2.out.rb.f 2
  go_wp2_with fail
  have RB := R2.out.rb.put3 (.bool false) (.slice p1 zs.length d1) (.slice p2 1 d2)
  unfold RA.put3 at RB
  have z0 := RB.c 0
  have z1 := RB.c 1
  have z2 := RB.c 2
  refine bodyPost_ret (v := .agg #[.bool false, .slice p1 zs.length d1, .slice p2 1 d2]) (by simp [results, Tryz.results21, go_sem, z0, z1, z2]) rfl ?_
  exact ⟨_, _, _, _, rfl, (HQ.out.put3 (by omega) _ _ _).mono (by omega), (HO.out.put3 (by omega) _ _ _).mono (by omega), Kp.put3 R2.out.kw (by omega) _ _ _⟩
/-- what Over has in memory -/
structure Ov (w W : World) (g : Nat) (x0 x1 y0 y1 : Value) : Prop where
  b1 : Bk W g #[x0, x1] 47
  b2 : Bk W (g + 1) #[y0, y1] 47
  rs : Rs w W #[.bool false, .slice none 0 0, .slice none 0 0] 49
theorem Ov.nx {w W W' : World} {g : Nat} {x0 x1 y0 y1 : Value} (h : Ov w W g x0 x1 y0 y1) (hk : Kp W W') : Ov w W' g x0 x1 y0 y1 := ⟨h.b1.nx hk, h.b2.nx hk, h.rs.nx hk⟩
theorem Ov.new {w W : World} (h : Rs w W #[.bool false, .slice none 0 0, .slice none 0 0] 49) (x0 x1 y0 y1 : Value) :
    Ov w ((W.alloc (.cells #[x0, x1] 47)).alloc (.cells #[y0, y1] 47)) W.heap.size x0 x1 y0 y1 := by
  have b2 := Bk.new (W.alloc (.cells #[x0, x1] 47)) #[y0, y1] 47
  rw [World.size_alloc] at b2
  exact ⟨(Bk.new W _ _).nx ((Kp.refl _).al _), b2, h.nx (((Kp.refl _).al _).al _)⟩
theorem Ov.all {w W : World} {g : Nat} {x0 x1 y0 y1 : Value} (h : Ov w W g x0 x1 y0 y1) : W.cell? ⟨g, 0, none⟩ = some x0 ∧ W.cell? ⟨g, 1, none⟩ = some x1 ∧ W.cell? ⟨g + 1, 0, none⟩ = some y0 ∧ W.cell? ⟨g + 1, 1, none⟩ = some y1 :=
  ⟨h.b1.c 0, h.b1.c 1, h.b2.c 0, h.b2.c 1⟩
theorem Ov.res {w W : World} {g : Nat} {x0 x1 y0 y1 : Value} (h : Ov w W g x0 x1 y0 y1) : W.frozen? ⟨w.heap.size, 0, none⟩ = false ∧ W.frozen? ⟨w.heap.size, 1, none⟩ = false ∧ W.frozen? ⟨w.heap.size, 2, none⟩ = false ∧ W.cell? ⟨w.heap.size, 0, none⟩ = some (.bool false) ∧ W.cell? ⟨w.heap.size, 1, none⟩ = some (.slice none 0 0) ∧ W.cell? ⟨w.heap.size, 2, none⟩ = some (.slice none 0 0) :=
  ⟨h.rs.rb.f 0, h.rs.rb.f 1, h.rs.rb.f 2, h.rs.rb.c 0, h.rs.rb.c 1, h.rs.rb.c 2⟩
theorem Bk.other {W : World} {b g : Nat} {cs : Array Value} {T : TypeId} (h : Bk W b cs T) (hne : b ≠ g) (i : Nat) (v : Value) : Bk (W.setCell ⟨g, i, none⟩ v) b cs T := (Below.heap_setCell _ _ _ b hne).trans h
theorem Ov.put {w W : World} {g : Nat} {x0 x1 y0 y1 : Value} (h : Ov w W g x0 x1 y0 y1) (hg : w.heap.size < g) (x y z : Value) :
    (((W.setCell ⟨w.heap.size, 0, none⟩ x).setCell ⟨w.heap.size, 1, none⟩ y).setCell ⟨w.heap.size, 2, none⟩ z).cell? ⟨g, 0, none⟩ = some x0 ∧ (((W.setCell ⟨w.heap.size, 0, none⟩ x).setCell ⟨w.heap.size, 1, none⟩ y).setCell ⟨w.heap.size, 2, none⟩ z).cell? ⟨g, 1, none⟩ = some x1 ∧
    (((W.setCell ⟨w.heap.size, 0, none⟩ x).setCell ⟨w.heap.size, 1, none⟩ y).setCell ⟨w.heap.size, 2, none⟩ z).cell? ⟨g + 1, 0, none⟩ = some y0 ∧ (((W.setCell ⟨w.heap.size, 0, none⟩ x).setCell ⟨w.heap.size, 1, none⟩ y).setCell ⟨w.heap.size, 2, none⟩ z).cell? ⟨g + 1, 1, none⟩ = some y1 := by
  have b1 := ((h.b1.other (show g ≠ w.heap.size by omega) 0 x).other (show g ≠ w.heap.size by omega) 1 y).other (show g ≠ w.heap.size by omega) 2 z
  have b2 := ((h.b2.other (show g + 1 ≠ w.heap.size by omega) 0 x).other (show g + 1 ≠ w.heap.size by omega) 1 y).other (show g + 1 ≠ w.heap.size by omega) 2 z
  exact ⟨b1.c 0, b1.c 1, b2.c 0, b2.c 1⟩
set_option maxHeartbeats 1000000 in
theorem rover (n d : Nat) (w : World) (hn : n < 9223372036854775808) (hd : d < 9223372036854775808) (h0 : d ≠ 0) (hu : us = L (n / Nat.gcd n d)) (hv : vs = L (d / Nat.gcd n d)) :
    Calls Tryz.prog 20 #[.int .i64 (n : Int), .int .i64 (d : Int)] w (GivesRat w us vs) := by
  obtain ⟨ns, hns⟩ : ∃ ns, ns = L n := ⟨_, rfl⟩
  obtain ⟨ds, hds⟩ : ∃ ds, ds = L d := ⟨_, rfl⟩
  have ln : ns.length ≤ 1 := by rw [hns]; exact L_len _ 1 (by omega)
  have ld : ds.length ≤ 1 := by rw [hds]; exact L_len _ 1 (by omega)
  have HO1 := Lib.hid (fun w1 => wof (zs := ns) n w1 hn hns)
  have HO2 := Lib.hid (fun w1 => wof (zs := ds) d w1 hd hds)
  have HM := Lib.hid (fun (w1 : World) (p : Option Addr) (c : Nat) (hg : Rd w1 p c ns) => wmake (zs := ns) hg rfl (by omega) (by rw [hns, V_L]))
  have HR := Lib.hid (fun (w1 : World) (p q : Option Addr) (c c' : Nat) (h1 : Rd w1 p c ns) (h2 : Rd w1 q c' ds) => rmake (us := us) (vs := vs) h1 h2 rfl rfl (by omega) (by omega) n d (by rw [hns, V_L]) (by rw [hds, V_L]) h0 hu hv)
  have R0 := Lib.hid (Rs.new w #[.bool false, .slice none 0 0, .slice none 0 0] 49)
  clear hns hds hu hv
  go_enter Tryz.func20, Tryz.ntmps20
  go_wp2_with fail
  generalize (w.alloc (.cells #[.bool false, .slice none 0 0, .slice none 0 0] 49)) = W0 at *
  refine (HO1.out _).mono ?_; rintro e W1 ⟨p1, d1, rfl, ho, hb⟩
  have R1 := Lib.hid (R0.out.nx hb)
  have HQ1 := Lib.hid (ho.mono R0.out.sz)
  clear HO1 R0 ho hb
  go_wp2_with fail
  refine (HO2.out _).mono ?_; rintro e W2 ⟨p2, d2, rfl, ho, hb⟩
  have R2 := Lib.hid (R1.out.nx hb)
  have HQ2 := Lib.hid (ho.mono R1.out.sz)
  replace HQ1 := Lib.hid (HQ1.out.nx hb)
  clear R1 ho hb HO2
  go_wp2_with fail
  obtain ⟨g, hg⟩ : ∃ g, W2.heap.size = g := ⟨_, rfl⟩
  have HV := Lib.hid (fun (W' : World) (hk : Kp ((W2.alloc (.cells #[.bool false, .slice p1 ns.length d1] 47)).alloc (.cells #[.bool false, .slice p2 ds.length d2] 47)) W') =>
    show Ov w W' g (.bool false) (.slice p1 ns.length d1) (.bool false) (.slice p2 ds.length d2) ∧ Rd W' p1 d1 ns ∧ Rd W' p2 d2 ds from
    ⟨by rw [← hg]; exact (Ov.new R2.out _ _ _ _).nx hk, HQ1.out.rd.nx (Kp.nx (((Kp.refl _).al _).al _) hk), HQ2.out.rd.nx (Kp.nx (((Kp.refl _).al _).al _) hk)⟩)
  rw [hg]
  generalize ((W2.alloc (.cells #[.bool false, .slice p1 ns.length d1] 47)).alloc (.cells #[.bool false, .slice p2 ds.length d2] 47)) = V at *
  have hgg : w.heap.size < g := by rw [← hg]; exact R2.out.sz
  clear R2 HQ1 HQ2 hg
  go_region_held3 (fun W => W.cell? ⟨g, 0, none⟩ = some (.bool false) ∧ W.cell? ⟨g, 1, none⟩ = some (.slice p1 ns.length d1) ∧ W.cell? ⟨g + 1, 0, none⟩ = some (.bool false) ∧ W.cell? ⟨g + 1, 1, none⟩ = some (.slice p2 ds.length d2))
    (first | exact (HV.out _ (Kp.refl _)).1.all | exact (HV.out _ (Kp.refl _).dr1).1.all | exact (HV.out _ (Kp.nx (Kp.refl _).dr1 hb3)).1.all | exact (HV.out _ (Kp.nx (Kp.nx (Kp.refl _).dr1 hb3) hb4)).1.all | exact (HV.out _ (Kp.nx (Kp.nx (Kp.refl _).dr1 hb3) hb4)).1.put hgg _ _ _)
    (first
      | (go_at_call 33; refine (HM.out _ p1 d1 (HV.out _ (Kp.refl _).dr1).2.1).mono ?_; rintro e W3 ⟨p3, d3, rfl, ho3, hb3⟩)
      | (go_at_call 32; refine (HR.out _ p3 p2 d3 d2 ho3.rd (HV.out _ (Kp.nx (Kp.refl _).dr1 hb3)).2.2).mono ?_; rintro e W4 ⟨p5, d5, p6, d6, rfl, ho5, ho6, hb4⟩; obtain ⟨f0, f1, f2, r0, r1, r2⟩ := (HV.out _ (Kp.nx (Kp.nx (Kp.refl _).dr1 hb3) hb4)).1.res))
  have H3 := Lib.hid (HV.out _ (Kp.nx (Kp.refl _).dr1 hb3)).1.rs
  have H4 := Lib.hid (HV.out _ (Kp.nx (Kp.nx (Kp.refl _).dr1 hb3) hb4)).1.rs
  have HO5 := Lib.hid (ho5.mono H3.out.sz)
  have HO6 := Lib.hid (ho6.mono H3.out.sz)
  clear HV HM HR ho3 ho5 ho6 hb3 hb4 H3 f0 f1 f2 r0 r1 r2
  go_wp2_with fail
  have RB := H4.out.rb.put3 (.bool false) (.slice p5 us.length d5) (.slice p6 vs.length d6)
  unfold RA.put3 at RB
  have z0 := RB.c 0
  have z1 := RB.c 1
  have z2 := RB.c 2
  refine bodyPost_ret (v := .tuple #[.agg #[.bool false, .slice p5 us.length d5, .slice p6 vs.length d6], .int .i64 0]) (by simp [results, Tryz.results20, go_sem, z0, z1, z2]) rfl ?_
  exact ⟨_, _, _, _, rfl, (HO5.out.put3 (by omega) _ _ _).mono (by omega), (HO6.out.put3 (by omega) _ _ _).mono (by omega), Kp.put3 H4.out.kw (by omega) _ _ _⟩
end Go.Proofs.RA
