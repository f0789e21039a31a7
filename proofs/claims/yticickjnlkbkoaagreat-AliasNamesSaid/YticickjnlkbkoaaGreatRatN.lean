/- Fractions: the document's Of, of numbers that are not below 0. -/
import Derived.Test.YticickjnlkbkoaaGreatRatE
namespace Go.Proofs.RA
open Go.RowKit
open Go.Proofs
open Go.Proofs.NP
open Go.Proofs.SL
open Go.Proofs.NR (Fits GivesE)
set_option linter.unusedVariables false
set_option linter.unusedSimpArgs false
set_option maxRecDepth 20000
variable {w : World} {xs ys zs us vs ps qs : List Nat}
theorem fsize (n : Nat) (w : World) (hn : n < 9223372036854775808) (hz : zs = L n) :
    Calls Tryz.prog 49 #[.int .i64 (n : Int)] w fun e w' => ∃ p c, e = .returned (.slice p zs.length c) ∧ Fr w.heap.size w' p c zs ∧ Kp w w' := by
  have HO := Lib.hid (fun w1 => RN.of (zs := zs) n w1 (by omega) hz)
  have hwr : IntKind.u64.wrap (n : Int) = (n : Int) := W.wrapN _ (by omega)
  have hge : ¬ ((n : Int) < 0) := by omega
  have hge2 : (0 : Int) ≤ (n : Int) := by omega
  clear hz
  go_enter Tryz.func49, Tryz.ntmps49
  go_wp2_with fail
  refine (HO.out _).mono ?_; rintro e W1 ⟨p1, d1, rfl, ho, hb⟩
  have HQ := Lib.hid (Fr.of ho (Nat.le_refl _))
  have HB := Lib.hid hb
  clear HO ho hb
  go_wp2_with fail
  go_ret
  exact ⟨_, _, rfl, HQ.out, HB.out⟩
set_option maxHeartbeats 1000000 in
theorem fover (n d : Nat) (w : World) (hn : n < 9223372036854775808) (hd : d < 9223372036854775808) (h0 : d ≠ 0) (hu : us = L (n / Nat.gcd n d)) (hv : vs = L (d / Nat.gcd n d)) :
    Calls Tryz.prog 30 #[.int .i64 (n : Int), .int .i64 (d : Int)] w (GivesRat w us vs) := by
  obtain ⟨ns, hns⟩ : ∃ ns, ns = L n := ⟨_, rfl⟩
  obtain ⟨ds, hds⟩ : ∃ ds, ds = L d := ⟨_, rfl⟩
  have ln : ns.length ≤ 1 := by rw [hns]; exact L_len _ 1 (by omega)
  have ld : ds.length ≤ 1 := by rw [hds]; exact L_len _ 1 (by omega)
  have HO1 := Lib.hid (fun w1 => fsize (zs := ns) n w1 hn hns)
  have HO2 := Lib.hid (fun w1 => fsize (zs := ds) d w1 hd hds)
  have HR := Lib.hid (fun (w1 : World) (p q : Option Addr) (c c' : Nat) (h1 : Rd w1 p c ns) (h2 : Rd w1 q c' ds) => fmake (us := us) (vs := vs) h1 h2 rfl rfl (by omega) (by omega) n d (by rw [hns, V_L]) (by rw [hds, V_L]) h0 hu hv)
  have R0 := Lib.hid (Rs.new w #[.bool false, .slice none 0 0, .slice none 0 0] 49)
  have hn0 : ¬ ((n : Int) < 0) := by omega
  have hd0 : ¬ ((d : Int) < 0) := by omega
  clear hns hds hu hv h0
  go_enter Tryz.func30, Tryz.ntmps30
  go_wp2_with fail
  generalize (w.alloc (.cells #[.bool false, .slice none 0 0, .slice none 0 0] 49)) = W0 at *
  refine (HO1.out _).mono ?_; rintro e W1 ⟨p1, d1, rfl, ho, hb⟩
  have R1 := Lib.hid (R0.out.nx hb)
  have HQ1 := Lib.hid (ho.mono R0.out.sz)
  clear HO1 R0 ho hb
  go_wp2_with fail
  refine (HO2.out _).mono ?_; rintro e W2 ⟨p2, d2, rfl, ho, hb⟩
  have R2 := Lib.hid (R1.out.nx hb)
  have HQ2 := Lib.hid (ho.mono R1.out.sz)
  replace HQ1 := Lib.hid (HQ1.out.nx hb)
  clear R1 ho hb HO2
  go_wp2_with fail
  refine (HR.out _ p1 p2 d1 d2 HQ1.out.rd HQ2.out.rd).mono ?_; rintro e W4 ⟨p5, d5, p6, d6, rfl, ho5, ho6, hb4⟩
  have H4 := Lib.hid (R2.out.nx hb4)
  have HO5 := Lib.hid (ho5.mono R2.out.sz)
  have HO6 := Lib.hid (ho6.mono R2.out.sz)
  have f0 := H4.out.rb.f 0
  have f1 := H4.out.rb.f 1
  have f2 := H4.out.rb.f 2
  have r0 := H4.out.rb.c 0
  have r1 := H4.out.rb.c 1
  have r2 := H4.out.rb.c 2
  clear R2 HQ1 HQ2 HR ho5 ho6 hb4
  go_wp2_with fail
  have RB := H4.out.rb.put3 (.bool false) (.slice p5 us.length d5) (.slice p6 vs.length d6)
  unfold RA.put3 at RB
  have z0 := RB.c 0
  have z1 := RB.c 1
  have z2 := RB.c 2
  refine bodyPost_ret (v := .tuple #[.agg #[.bool false, .slice p5 us.length d5, .slice p6 vs.length d6], .int .i64 0]) (by simp [results, Tryz.results30, go_sem, z0, z1, z2]) rfl ?_
  exact ⟨_, _, _, _, rfl, (HO5.out.put3 (by omega) _ _ _).mono (by omega), (HO6.out.put3 (by omega) _ _ _).mono (by omega), Kp.put3 H4.out.kw (by omega) _ _ _⟩
theorem fof (n : Nat) (w : World) (hn : n < 9223372036854775808) (hu : us = L n) (hv : vs = [1]) :
    Calls Tryz.prog 19 #[.int .i64 (n : Int)] w (GivesR1 w us vs) := by
  have hg : Nat.gcd n 1 = 1 := Nat.gcd_one_right n
  have HO := Lib.hid (fun w1 => show Calls Tryz.prog 30 #[.int .i64 (n : Int), .int .i64 1] w1 (GivesRat w1 us vs) from fover (us := us) (vs := vs) n 1 w1 hn (by decide) (by decide) (by rw [hu, hg, Nat.div_one]) (by rw [hv, hg]; decide +kernel))
  have R0 := Lib.hid (Rs.new w #[.bool false, .slice none 0 0, .slice none 0 0] 49)
  clear hu hv hg
  go_enter Tryz.func19, Tryz.ntmps19
  go_wp2_with fail
  generalize (w.alloc (.cells #[.bool false, .slice none 0 0, .slice none 0 0] 49)) = W0 at *
  refine (HO.out _).mono ?_; rintro e W1 ⟨p5, d5, p6, d6, rfl, ho5, ho6, hb⟩
  have R1 := Lib.hid (R0.out.nx hb)
  have R2 := Lib.hid (R1.out.nx ((Kp.refl _).al (.cells #[.bool false, .slice p5 us.length d5, .slice p6 vs.length d6] 49)))
  have HO5 := Lib.hid ((ho5.mono R0.out.sz).nx ((Kp.refl _).al (.cells #[.bool false, .slice p5 us.length d5, .slice p6 vs.length d6] 49)))
  have HO6 := Lib.hid ((ho6.mono R0.out.sz).nx ((Kp.refl _).al (.cells #[.bool false, .slice p5 us.length d5, .slice p6 vs.length d6] 49)))
  have B1 := Bk.new W1 #[.bool false, .slice p5 us.length d5, .slice p6 vs.length d6] 49
  have y0 := B1.c 0
  have y1 := B1.c 1
  have y2 := B1.c 2
  have f0 := R2.out.rb.f 0
  have f1 := R2.out.rb.f 1
  have f2 := R2.out.rb.f 2
  have r0 := R2.out.rb.c 0
  have r1 := R2.out.rb.c 1
  have r2 := R2.out.rb.c 2
  clear HO R0 R1 ho5 ho6 hb B1
  go_wp2_with fail
  have RB := R2.out.rb.put3 (.bool false) (.slice p5 us.length d5) (.slice p6 vs.length d6)
  unfold RA.put3 at RB
  have z0 := RB.c 0
  have z1 := RB.c 1
  have z2 := RB.c 2
  refine bodyPost_ret (v := .agg #[.bool false, .slice p5 us.length d5, .slice p6 vs.length d6]) (by simp [results, Tryz.results19, go_sem, z0, z1, z2]) rfl ?_
  exact ⟨_, _, _, _, rfl, (HO5.out.put3 (by omega) _ _ _).mono (by omega), (HO6.out.put3 (by omega) _ _ _).mono (by omega), Kp.put3 R2.out.kw (by omega) _ _ _⟩
end Go.Proofs.RA
