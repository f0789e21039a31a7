/- Alias tables: what is drawn, and what it costs. -/
import Derived.Test.YticickjnlkbkoaaGreatAliB
import Derived.Test.YticickjnlkbkoaaGreatBelF
import Derived.Test.YticickjnlkbkoaaGreatRatI
namespace Go.Proofs.AL
open Go.RowKit
open Go.Proofs
open Go.Proofs.NP
open Go.Proofs.SL
open Go.Proofs.RA
open Go.Proofs.BL
open Go.Proofs.BT
open Go.Proofs.NR (Fits)
open Go
set_option linter.unusedVariables false
set_option linter.unusedSimpArgs false
set_option maxRecDepth 20000
variable {w : World} {g gc go n : Nat} {cu ot : Nat → Int} {ps qs : List Nat}
set_option maxHeartbeats 4000000 in
theorem tcost (S : Nat) (h : Tb w g gc go n (S : Int) cu ot) (hn : 1 ≤ n ∧ n ≤ 64) (hS : 1 ≤ S ∧ S ≤ 67108864) (X Y X' Y' N D : Nat) (hX : X = cN n / Nat.gcd (cN n) n) (hY : Y = n / Nat.gcd (cN n) n) (hX' : X' = cN S / Nat.gcd (cN S) S) (hY' : Y' = S / Nat.gcd (cN S) S)
    (hN : N = X / Nat.gcd X Y * (Y' / Nat.gcd X' Y') + X' / Nat.gcd X' Y' * (Y / Nat.gcd X Y)) (hD : D = Y / Nat.gcd X Y * (Y' / Nat.gcd X' Y')) (hp : ps = L (N / Nat.gcd N D)) (hq : qs = L (D / Nat.gcd N D)) :
    Calls Tryz.prog 18 #[.pointer (some ⟨g, 0, none⟩)] w (GivesR1 w ps qs) := by
  obtain ⟨us, hus⟩ : ∃ s, s = L X := ⟨_, rfl⟩
  obtain ⟨vs, hvs⟩ : ∃ s, s = L Y := ⟨_, rfl⟩
  obtain ⟨us', hus'⟩ : ∃ s, s = L X' := ⟨_, rfl⟩
  obtain ⟨vs', hvs'⟩ : ∃ s, s = L Y' := ⟨_, rfl⟩
  have y0 : 0 < Y := by rw [hY]; exact Nat.div_pos (Nat.gcd_le_right _ (by omega)) (Nat.gcd_pos_of_pos_right _ (by omega))
  have y1 : 0 < Y' := by rw [hY']; exact Nat.div_pos (Nat.gcd_le_right _ (by omega)) (Nat.gcd_pos_of_pos_right _ (by omega))
  have lu : us.length ≤ 2 := by rw [hus, hX]; exact ((cN_fits n (by omega)).div _).len
  have lv : vs.length ≤ 1 := by rw [hvs, hY]; exact L_len _ 1 (by have := Nat.div_le_self n (Nat.gcd (cN n) n); omega)
  have lu' : us'.length ≤ 2 := by rw [hus', hX']; exact ((cN_fits S (by omega)).div _).len
  have lv' : vs'.length ≤ 1 := by rw [hvs', hY']; exact L_len _ 1 (by have := Nat.div_le_self S (Nat.gcd (cN S) S); omega)
  have HC1 := Lib.hid (fun W => cost1 (us := us) (vs := vs) n W (by omega) (by omega) (by rw [hus, hX]) (by rw [hvs, hY]))
  have HC2 := Lib.hid (fun W => cost1 (us := us') (vs := vs') S W (by omega) (by omega) (by rw [hus', hX']) (by rw [hvs', hY']))
  have HAd := Lib.hid (fun (W : World) (p q p' q' : Option Addr) (c d c' d' : Nat) (h1 : Rd W p c us) (h2 : Rd W q d vs) (h3 : Rd W p' c' us') (h4 : Rd W q' d' vs') => radd (ps := ps) (qs := qs) h1 h2 rfl rfl h3 h4 rfl rfl (by omega) X Y X' Y' N D (by rw [hus, V_L]) (by rw [hvs, V_L]) (by rw [hus', V_L]) (by rw [hvs', V_L]) (by omega) (by omega) hN hD hp hq)
  have R0 := Lib.hid (Rs.new w #[.bool false, .slice none 0 0, .slice none 0 0] 49)
  have HT := Lib.hid (h.nx ((Kp.refl w).al (.cells #[.bool false, .slice none 0 0, .slice none 0 0] 49)))
  have hw1 : IntKind.u64.wrap (n : Int) = (n : Int) := W.wrapN _ (by omega)
  have hw2 : IntKind.u64.wrap (S : Int) = (S : Int) := W.wrapN _ (by omega)
  clear hX hY hX' hY' hN hD hp hq hus hvs hus' hvs' y0 y1 h
  go_enter Tryz.func18, Tryz.ntmps18
  go_wp2_with fail
  generalize (w.alloc (.cells #[.bool false, .slice none 0 0, .slice none 0 0] 49)) = W0 at *
  refine (show Calls Tryz.prog 23 #[.pointer (some ⟨g, 0, none⟩), .int .i64 0] W0 (fun e w' => e = .returned (.int .i64 0) ∧ W0 = w') from at1 0 HT.out (by omega) 0 (by rw [atE, if_pos (by omega)])).mono ?_; rintro e w' ⟨rfl, rfl⟩
  have c1 := HT.out.tb.c 1
  go_wp2_with fail
  refine (HC1.out _).mono ?_; rintro e W1 ⟨p1, e1, q1, d1, rfl, ho1, ho2, hb⟩
  have X1 := Lib.hid (RatV.new ho1.rd ho2.rd)
  have KA := (Kp.nx hb ((Kp.refl _).al (.cells #[.bool false, .slice p1 us.length e1, .slice q1 vs.length d1] 49)))
  replace R0 := Lib.hid (R0.out.nx KA)
  replace HT := Lib.hid (HT.out.nx KA)
  have c0 := HT.out.tb.c 0
  clear HC1 ho1 ho2 hb KA c1
  go_wp2_with fail
  generalize (W1.alloc (.cells #[.bool false, .slice p1 us.length e1, .slice q1 vs.length d1] 49)) = Y1 at *
  refine (HC2.out _).mono ?_; rintro e W2 ⟨p2, e2, q2, d2, rfl, ho1, ho2, hb⟩
  have X2 := Lib.hid (RatV.new ho1.rd ho2.rd)
  have KA := (Kp.nx hb ((Kp.refl _).al (.cells #[.bool false, .slice p2 us'.length e2, .slice q2 vs'.length d2] 49)))
  replace R0 := Lib.hid (R0.out.nx KA)
  replace X1 := Lib.hid (X1.out.nx KA)
  obtain ⟨a0, a1, a2⟩ := X1.out.cs
  obtain ⟨b0, b1, b2⟩ := X2.out.cs
  clear HC2 ho1 ho2 hb KA c0 HT
  go_wp2_with fail
  generalize (W2.alloc (.cells #[.bool false, .slice p2 us'.length e2, .slice q2 vs'.length d2] 49)) = Y2 at *
  refine (HAd.out _ p1 q1 p2 q2 e1 d1 e2 d2 X1.out.ru X1.out.rv X2.out.ru X2.out.rv).mono ?_; rintro e W4 ⟨p5, d5, p6, d6, rfl, ho5, ho6, hb4⟩
  have H4 := Lib.hid (R0.out.nx hb4)
  have HO5 := Lib.hid (ho5.mono R0.out.sz)
  have HO6 := Lib.hid (ho6.mono R0.out.sz)
  clear R0 HAd X1 X2 a0 a1 a2 b0 b1 b2 ho5 ho6 hb4
  have f0 := H4.out.rb.f 0
  have f1 := H4.out.rb.f 1
  have f2 := H4.out.rb.f 2
  have r0 := H4.out.rb.c 0
  have r1 := H4.out.rb.c 1
  have r2 := H4.out.rb.c 2
  go_wp2_with fail
  have RB := H4.out.rb.put3 (.bool false) (.slice p5 ps.length d5) (.slice p6 qs.length d6)
  unfold RA.put3 at RB
  have z0 := RB.c 0
  have z1 := RB.c 1
  have z2 := RB.c 2
  refine bodyPost_ret (v := .agg #[.bool false, .slice p5 ps.length d5, .slice p6 qs.length d6]) (by simp [results, Tryz.results18, go_sem, z0, z1, z2]) rfl ?_
  exact ⟨_, _, _, _, rfl, (HO5.out.put3 (by omega) _ _ _).mono (by omega), (HO6.out.put3 (by omega) _ _ _).mono (by omega), Kp.put3 H4.out.kw (by omega) _ _ _⟩
end Go.Proofs.AL
