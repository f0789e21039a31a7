/- The document's answer: the greatest common divisor by halves (tombolaref06.Gcd). At most 1000 limbs each. -/
import Derived.Test.YticickjnlkbkoaaGreatMR
import Derived.Test.YticickjnlkbkoaaGreatMA
import Derived.Test.YticickjnlkbkoaaGreatMQ
import Derived.Deep.QuietTactic
import Derived.BigQuiet
import Derived.Deep.Cut
namespace Go.Proofs.RA
open Go.RowKit
open Go.Proofs
open Go.Proofs.NP
open Go.Proofs.SL
open Go.Proofs.NR (Fits GivesE)
open Go.Proofs.QR (mu mu_eq)
set_option linter.unusedVariables false
set_option maxRecDepth 20000
set_option linter.unusedSimpArgs false
variable {w : World} {a b : Option Addr} {ca cb l k : Nat} {xs ys zs : List Nat}
theorem bit0 (hx : Rd w a ca xs) (lx : xs.length = l) (h : l ≤ 100000) (z : Bool) (hz : z = (V xs % 2 == 1)) :
    Calls Tryz.prog 57 #[.slice a l ca, .int .i64 0] w fun e w' => e = .returned (.bool z) ∧ Kp w w' :=
  RN.bit hx lx h 0 (by omega) z (by rw [hz, Nat.pow_zero, Nat.div_one])
theorem half1 (hx : Rd w a ca xs) (lx : xs.length = l) (h : l ≤ 50000) (hz : zs = L (V xs / 2)) :
    Calls Tryz.prog 58 #[.slice a l ca, .int .i64 1] w (GivesE 66 w zs) :=
  RN.shr_ok hx lx h 1 (by omega) (by rw [hz])
/-- two naturals under way -/
structure P2 (w wr : World) (M : Nat) (p q : Option Addr) (c d X Y : Nat) (us vs : List Nat) : Prop where
  fx : Fits X M
  fy : Fits Y M
  eu : us = L X
  ev : vs = L Y
  su : Rd wr p c us
  sv : Rd wr q d vs
  kw : Kp w wr
variable {wr w' : World} {M X Y c d : Nat} {p q : Option Addr} {us vs : List Nat}
theorem P2.nx (G : P2 w wr M p q c d X Y us vs) (h : Kp wr w') : P2 w w' M p q c d X Y us vs := ⟨G.fx, G.fy, G.eu, G.ev, G.su.nx h, G.sv.nx h, Kp.nx G.kw h⟩
theorem P2.lu (G : P2 w wr M p q c d X Y us vs) : us.length ≤ M := by rw [G.eu]; exact G.fx.len
theorem P2.lv (G : P2 w wr M p q c d X Y us vs) : vs.length ≤ M := by rw [G.ev]; exact G.fy.len
theorem P2.vu (G : P2 w wr M p q c d X Y us vs) : V us = X := by rw [G.eu, V_L]
theorem P2.vv (G : P2 w wr M p q c d X Y us vs) : V vs = Y := by rw [G.ev, V_L]
theorem P2.pu (G : P2 w wr M p q c d X Y us vs) (h : X ≠ 0) : 0 < us.length := by
  rcases Nat.eq_zero_or_pos us.length with h1 | h1
  · have := List.eq_nil_of_length_eq_zero h1; rw [G.eu, L_nil] at this; exact absurd this h
  · exact h1
theorem P2.pv (G : P2 w wr M p q c d X Y us vs) (h : Y ≠ 0) : 0 < vs.length := by
  rcases Nat.eq_zero_or_pos vs.length with h1 | h1
  · have := List.eq_nil_of_length_eq_zero h1; rw [G.ev, L_nil] at this; exact absurd this h
  · exact h1
theorem P2.zu (G : P2 w wr M p q c d X Y us vs) (h : X = 0) : us.length = 0 := by rw [G.eu, h]; rfl
theorem P2.zv (G : P2 w wr M p q c d X Y us vs) (h : Y = 0) : vs.length = 0 := by rw [G.ev, h]; rfl
theorem P2.setU (G : P2 w wr M p q c d X Y us vs) {r : Option Addr} {e Z : Nat} {rs : List Nat} (hk : Kp wr w') (hr : rs = L Z) (hs : Rd w' r e rs) (hf : Fits Z M) : P2 w w' M r q e d Z Y rs vs := ⟨hf, G.fy, hr, G.ev, hs, G.sv.nx hk, Kp.nx G.kw hk⟩
theorem P2.setV (G : P2 w wr M p q c d X Y us vs) {r : Option Addr} {e Z : Nat} {rs : List Nat} (hk : Kp wr w') (hr : rs = L Z) (hs : Rd w' r e rs) (hf : Fits Z M) : P2 w w' M p r c e X Z us rs := ⟨G.fx, hf, G.eu, hr, G.su.nx hk, hs, Kp.nx G.kw hk⟩
theorem P2.mu1 (G : P2 w wr M p q c d X Y us vs) : mu (.slice p us.length c) wr = X := mu_eq G.su G.eu
theorem P2.mu2 (G : P2 w wr M p q c d X Y us vs) : mu (.slice q vs.length d) wr = Y := mu_eq G.sv G.ev
theorem gcd_half {X Y : Nat} (hx : X % 2 = 0) (hy : Y % 2 = 1) : Nat.gcd (X / 2) Y = Nat.gcd X Y := by
  obtain ⟨x, rfl⟩ : ∃ x, X = 2 * x := ⟨X / 2, by omega⟩
  have hc : Nat.gcd 2 Y = 1 := by
    have h1 := Nat.gcd_dvd_left 2 Y
    have h2 := Nat.gcd_dvd_right 2 Y
    have h3 := Nat.le_of_dvd (by decide) h1
    rcases (by omega : Nat.gcd 2 Y = 0 ∨ Nat.gcd 2 Y = 1 ∨ Nat.gcd 2 Y = 2) with h | h | h
    · rw [h] at h1; omega
    · exact h
    · rw [h] at h2; omega
  rw [Nat.mul_div_cancel_left _ (by decide)]
  have : Nat.Coprime 2 Y := hc
  exact (Nat.Coprime.gcd_mul_left_cancel x this).symm
theorem gcd_less {X Y : Nat} (h : Y ≤ X) : Nat.gcd (X - Y) Y = Nat.gcd X Y := by
  have := Nat.gcd_sub_self_left h
  exact this
theorem twos_le {X0 X t M : Nat} (h : X * 2 ^ t = X0) (h0 : X ≠ 0) (hf : Fits X0 M) : t ≤ 64 * M := by
  rcases Nat.lt_or_ge (64 * M) t with h1 | h1
  · exfalso
    have h2 : 2 ^ (64 * M) ≤ 2 ^ t := Nat.pow_le_pow_right (by decide) (by omega)
    have h3 : 2 ^ t ≤ X0 := by rw [← h]; exact Nat.le_mul_of_pos_left _ (by omega)
    unfold Fits at hf
    rw [show (18446744073709551616 : Nat) = 2 ^ 64 by decide, ← Nat.pow_mul] at hf
    omega
  · exact h1
set_option maxHeartbeats 4000000 in
theorem gcd6 (hx : Rd w a ca xs) (hy : Rd w b cb ys) (lx : xs.length = l) (ly : ys.length = k) (h : l ≤ 1000) (h' : k ≤ 1000) (hz : zs = L (Nat.gcd (V xs) (V ys))) :
    Calls Tryz.prog 39 #[.slice a l ca, .slice b k cb] w fun e w' => ∃ p c, e = .returned (.slice p zs.length c) ∧ Rd w' p c zs ∧ Kp w w' := by
  obtain ⟨es, hes⟩ : ∃ es, es = L (V xs) := ⟨_, rfl⟩
  obtain ⟨bs, hbs⟩ : ∃ bs, bs = L (V ys) := ⟨_, rfl⟩
  obtain ⟨M, hM1, hM2⟩ : ∃ M, 1000 ≤ M ∧ M ≤ 1000 := ⟨1000, Nat.le_refl _, Nat.le_refl _⟩
  obtain ⟨X0, hX0⟩ : ∃ X, X = V xs := ⟨_, rfl⟩
  obtain ⟨Y0, hY0⟩ : ∃ X, X = V ys := ⟨_, rfl⟩
  have FX : Fits X0 M := by rw [hX0]; exact Fits.of hx.ws (by omega)
  have FY : Fits Y0 M := by rw [hY0]; exact Fits.of hy.ws (by omega)
  have FT := Lib.hid (fun (X t : Nat) (h : X * 2 ^ t = X0) (h0 : X ≠ 0) => show t ≤ 64000 from Nat.le_trans (twos_le h h0 FX) (by omega))
  have HA := Lib.hid (RN.trim hx lx (by omega) hes)
  have HB := Lib.hid (fun (w1 : World) (hy : Rd w1 b cb ys) => RN.trim hy ly (by omega) hbs)
  rw [← hX0] at hes hz
  rw [← hY0] at hbs hz
  have HY := Lib.hid hy
  have HZ := Lib.hid hz
  have HEA := Lib.hid hes
  have HEB := Lib.hid hbs
  have HFX := Lib.hid FX
  have HFY := Lib.hid FY
  clear hx hy lx ly hz hes hbs hX0 hY0 FX FY
  go_enter Tryz.func39, Tryz.ntmps39
  go_wp2_with fail
  refine HA.out.mono ?_
  rintro e w1 ⟨p1, c1, rfl, ho1, hb1⟩
  have HY1 := HY.out.nx hb1
  have HO1 := Lib.hid ho1.rd
  have HK := Lib.hid hb1
  clear HA hb1 HY ho1
  go_wp2_with fail
  refine (HB.out w1 HY1).mono ?_
  rintro e w2 ⟨p2, c2, rfl, ho2, hb2⟩
  have G := Lib.hid (show P2 w w2 M p1 p2 c1 c2 X0 Y0 es bs from ⟨HFX.out, HFY.out, HEA.out, HEB.out, HO1.out.nx hb2, ho2.rd, Kp.nx HK.out hb2⟩)
  clear HB HY1 HK ho2 hb2 HO1
  by_cases x0 : X0 = 0
  · have l0 := G.out.zu x0
    have e1 : bs = zs := by rw [HEB.out, HZ.out, x0, Nat.gcd_zero_left]
    subst e1
    have hf := Lib.hid (show ∃ p c, Ending.returned (.slice p2 bs.length c2) = .returned (.slice p bs.length c) ∧ Rd w2 p c bs ∧ Kp w w2 from ⟨_, _, rfl, G.out.sv, G.out.kw⟩)
    clear G HZ x0
    go_wp2_with fail
    go_ret
    exact hf.out
  have l1 := G.out.pu x0
  have l1' : (((es.length : Nat) : Int) == 0) = false := by rw [beq_eq_false_iff_ne]; omega
  by_cases y0 : Y0 = 0
  · have l0 := G.out.zv y0
    have e1 : es = zs := by rw [HEA.out, HZ.out, y0, Nat.gcd_zero_right]
    subst e1
    have hf := Lib.hid (show ∃ p c, Ending.returned (.slice p1 es.length c1) = .returned (.slice p es.length c) ∧ Rd w2 p c es ∧ Kp w w2 from ⟨_, _, rfl, G.out.su, G.out.kw⟩)
    clear G HZ y0 x0
    go_wp2_with fail
    go_ret
    exact hf.out
  have l2 := G.out.pv y0
  have l2' : (((bs.length : Nat) : Int) == 0) = false := by rw [beq_eq_false_iff_ne]; omega
  have HX0 := Lib.hid x0
  have HY0 := Lib.hid y0
  clear x0 y0
  go_upto_region 6 with fail
  iterate 8 go_step
  go_cut [0, 1, 5] from 12 (fun s0 s1 s3 wr => ∃ (p q : Option Addr) (c d X Y t : Nat) (us vs : List Nat), s0 = .slice p us.length c ∧ s1 = .slice q vs.length d ∧ s3 = .int .i64 (t : Int) ∧ t ≤ 64000 ∧ Hid (P2 w wr M p q c d X Y us vs) ∧ Hid ((X % 2 = 1 ∨ Y % 2 = 1) ∧ Nat.gcd X Y * 2 ^ t = Nat.gcd X0 Y0))
  case first =>
    go_wp2_with fail
    go_loopw [0, 1, 5] (fun s0 s1 s3 wr => ∃ (p q : Option Addr) (c d X Y t : Nat) (us vs : List Nat), s0 = .slice p us.length c ∧ s1 = .slice q vs.length d ∧ s3 = .int .i64 (t : Int) ∧ t ≤ 64000 ∧ Hid (P2 w wr M p q c d X Y us vs) ∧ Hid (X * 2 ^ t = X0 ∧ Y * 2 ^ t = Y0)) (fun s0 _ _ wr => mu s0 wr)
    case atStart => exact ⟨p1, p2, c1, c2, X0, Y0, 0, es, bs, rfl, rfl, rfl, by omega, G, by simp [Hid]⟩
    case round =>
      clear G l1 l2 l1' l2'
      obtain ⟨p, q, c, d, X, Y, t, us, vs, rfl, rfl, rfl, ht, G, E⟩ := hrel
      have hx0 : X ≠ 0 := fun h => HX0.out (by rw [← E.out.1, h, Nat.zero_mul])
      have hy0 : Y ≠ 0 := fun h => HY0.out (by rw [← E.out.2, h, Nat.zero_mul])
      have hlu := G.out.lu
      have hlv := G.out.lv
      have HBX := Lib.hid (fun (z : Bool) (hz : z = (X % 2 == 1)) => bit0 G.out.su rfl (by omega) z (show z = (V us % 2 == 1) by rw [G.out.vu]; exact hz))
      have HBY := Lib.hid (fun (w1 : World) (h : Kp wr w1) (z : Bool) (hz : z = (Y % 2 == 1)) => bit0 (G.out.nx h).sv rfl (by omega) z (show z = (V vs % 2 == 1) by rw [G.out.vv]; exact hz))
      by_cases hev : X % 2 = 0 ∧ Y % 2 = 0
      · have he1 := Lib.hid (show false = (X % 2 == 1) by rw [hev.1]; rfl)
        have he2 := Lib.hid (show false = (Y % 2 == 1) by rw [hev.2]; rfl)
        have E2 := Lib.hid (show X / 2 * 2 ^ (t + 1) = X0 ∧ Y / 2 * 2 ^ (t + 1) = Y0 by
          have h1 : X / 2 * 2 = X := by omega
          have h2 : Y / 2 * 2 = Y := by omega
          rw [Nat.pow_succ, Nat.mul_comm (2 ^ t) 2, ← Nat.mul_assoc, ← Nat.mul_assoc, h1, h2]; exact E.out)
        have ht2 : t + 1 ≤ 64000 := FT.out (X / 2) (t + 1) E2.out.1 (by omega)
        have hlt := Lib.hid (show X / 2 < X by omega)
        obtain ⟨us', hus⟩ : ∃ z, z = L (X / 2) := ⟨_, rfl⟩
        obtain ⟨vs', hvs⟩ : ∃ z, z = L (Y / 2) := ⟨_, rfl⟩
        have HUS := Lib.hid hus
        have HVS := Lib.hid hvs
        obtain ⟨wo, rfl⟩ : ∃ wo : World, wo = wr := ⟨_, rfl⟩
        have HM1 := Lib.hid G.out.mu1
        clear hus hvs hev hx0 hy0 E
        go_wp2_with fail
        refine (HBX.out false he1.out).mono ?_; rintro e w3 ⟨rfl, hb3⟩
        replace G := Lib.hid (G.out.nx hb3)
        have HBY3 := Lib.hid (HBY.out w3 hb3 false he2.out)
        clear HBX HBY hb3
        go_wp2_with fail
        refine HBY3.out.mono ?_; rintro e w4 ⟨rfl, hb4⟩
        replace G := Lib.hid (G.out.nx hb4)
        clear HBY3 hb4
        have HS := Lib.hid (half1 (zs := us') G.out.su rfl (by omega) (by rw [G.out.vu]; exact HUS.out))
        go_wp2_with fail
        refine HS.out.mono ?_; rintro e w5 ⟨p5, c5, rfl, ho5, hb5⟩
        replace G := Lib.hid (G.out.setU hb5 HUS.out ho5.rd (G.out.fx.div 2))
        clear HS ho5 hb5
        have HS := Lib.hid (half1 (zs := vs') G.out.sv rfl (by omega) (by rw [G.out.vv]; exact HVS.out))
        go_wp2_with fail
        refine HS.out.mono ?_; rintro e w6 ⟨p6, c6, rfl, ho6, hb6⟩
        replace G := Lib.hid (G.out.setV hb6 HVS.out ho6.rd (G.out.fy.div 2))
        clear HS ho6 hb6
        have HM2 := Lib.hid G.out.mu1
        go_wp2_with fail
        go_roundw
        case rel => exact ⟨p5, p6, c5, c6, X / 2, Y / 2, t + 1, us', vs', rfl, rfl, by go_num, ht2, G, E2⟩
        case measure => rw [HM1.out, HM2.out]; exact hlt.out
      · have Q := Lib.hid (show (X % 2 = 1 ∨ Y % 2 = 1) ∧ Nat.gcd X Y * 2 ^ t = Nat.gcd X0 Y0 from ⟨by omega, by rw [← E.out.1, ← E.out.2, Nat.gcd_mul_right]⟩)
        obtain ⟨wo, rfl⟩ : ∃ wo : World, wo = wr := ⟨_, rfl⟩
        rcases Nat.mod_two_eq_zero_or_one X with hX | hX
        · have he1 := Lib.hid (show false = (X % 2 == 1) by rw [hX]; rfl)
          have he2 := Lib.hid (show true = (Y % 2 == 1) by rw [show Y % 2 = 1 by omega]; rfl)
          clear hev hx0 hy0 E hX
          go_wp2_with fail
          refine (HBX.out false he1.out).mono ?_; rintro e w3 ⟨rfl, hb3⟩
          replace G := Lib.hid (G.out.nx hb3)
          have HBY3 := Lib.hid (HBY.out w3 hb3 true he2.out)
          clear HBX HBY hb3
          go_wp2_with fail
          refine HBY3.out.mono ?_; rintro e w4 ⟨rfl, hb4⟩
          replace G := Lib.hid (G.out.nx hb4)
          clear HBY3 hb4
          go_wp2_with fail
          go_meet
          case rel => exact ⟨p, q, c, d, X, Y, t, us, vs, rfl, rfl, rfl, ht, G, Q⟩
        · have he1 := Lib.hid (show true = (X % 2 == 1) by rw [hX]; rfl)
          clear hev hx0 hy0 E hX
          go_wp2_with fail
          refine (HBX.out true he1.out).mono ?_; rintro e w3 ⟨rfl, hb3⟩
          replace G := Lib.hid (G.out.nx hb3)
          clear HBX HBY hb3
          go_wp2_with fail
          go_meet
          case rel => exact ⟨p, q, c, d, X, Y, t, us, vs, rfl, rfl, rfl, ht, G, Q⟩
  case rest =>
    clear G l1 l2 l1' l2'
    obtain ⟨p, q, c, d, X, Y, t, us, vs, rfl, rfl, rfl, ht, G, Q⟩ := hcut
    go_wp2_with fail
    go_loopw [0, 1] (fun s0 s1 wr => ∃ (p q : Option Addr) (c d X Y : Nat) (us vs : List Nat), s0 = .slice p us.length c ∧ s1 = .slice q vs.length d ∧ Hid (P2 w wr M p q c d X Y us vs) ∧ Hid ((X % 2 = 1 ∨ Y % 2 = 1 ∨ Y = 0) ∧ Nat.gcd X Y * 2 ^ t = Nat.gcd X0 Y0)) (fun s0 s1 wr => mu s0 wr + mu s1 wr)
    case atStart => exact ⟨p, q, c, d, X, Y, us, vs, rfl, rfl, G, Lib.hid ⟨by rcases Q.out.1 with h | h; exact .inl h; exact .inr (.inl h), Q.out.2⟩⟩
    case round =>
      clear G Q
      clear p q c d X Y us vs
      obtain ⟨p, q, c, d, X, Y, us, vs, rfl, rfl, G, Q⟩ := hrel
      have hlu := G.out.lu
      have hlv := G.out.lv
      have hdec : (X = 0 ∨ Y = 0) ∨ (X ≠ 0 ∧ Y ≠ 0) := by omega
      rcases hdec with h0 | ⟨hx0, hy0⟩
      · have hs : Nat.gcd X Y = X + Y := by
          rcases h0 with h | h
          · rw [h, Nat.gcd_zero_left, Nat.zero_add]
          · rw [h, Nat.gcd_zero_right, Nat.add_zero]
        obtain ⟨ss, hss⟩ : ∃ z, z = L (X + Y) := ⟨_, rfl⟩
        have HSS := Lib.hid hss
        have lss : ss.length ≤ 2001 := by rw [hss]; exact Nat.le_trans (G.out.fx.add G.out.fy).len (by omega)
        have HAd := Lib.hid (RN.add (zs := ss) G.out.su G.out.sv rfl rfl (by omega) (by omega) (by rw [G.out.vu, G.out.vv]; exact hss))
        have HZS := Lib.hid (show zs = L (V ss * 2 ^ t) by rw [hss, V_L, ← hs, Q.out.2]; exact HZ.out)
        have HZL : us.length = 0 ∨ vs.length = 0 := by
          rcases h0 with h | h
          · exact .inl (G.out.zu h)
          · exact .inr (G.out.zv h)
        obtain ⟨lu, hlu'⟩ : ∃ n, us.length = n := ⟨_, rfl⟩
        obtain ⟨lv, hlv'⟩ : ∃ n, vs.length = n := ⟨_, rfl⟩
        rw [hlu', hlv'] at HAd HZL ⊢
        obtain ⟨wo, rfl⟩ : ∃ wo : World, wo = wr := ⟨_, rfl⟩
        clear hss h0 hs Q HZ hlu' hlv' hlu hlv
        rcases HZL with h | h
        · subst h
          go_wp2_with fail
          refine HAd.out.mono ?_; rintro e w3 ⟨p3, c3, rfl, ho3, hb3⟩
          have HSh := Lib.hid (RN.shl_ok ho3.rd rfl (by omega) t (by omega) HZS.out)
          replace G := Lib.hid (G.out.nx hb3)
          clear HAd ho3 hb3
          go_wp2_with fail
          refine HSh.out.mono ?_; rintro e w4 ⟨p4, c4, rfl, ho4, hb4⟩
          have hf := Lib.hid (show ∃ p c, Ending.returned (.slice p4 zs.length c4) = .returned (.slice p zs.length c) ∧ Rd w4 p c zs ∧ Kp w w4 from ⟨_, _, rfl, ho4.rd, Kp.nx G.out.kw hb4⟩)
          clear HSh ho4 hb4 G
          go_wp2_with fail
          go_ret
          exact hf.out
        · subst h
          go_wp2_with fail
          all_goals
            refine HAd.out.mono ?_; rintro e w3 ⟨p3, c3, rfl, ho3, hb3⟩
            have HSh := Lib.hid (RN.shl_ok ho3.rd rfl (by omega) t (by omega) HZS.out)
            replace G := Lib.hid (G.out.nx hb3)
            clear HAd ho3 hb3
            go_wp2_with fail
            refine HSh.out.mono ?_; rintro e w4 ⟨p4, c4, rfl, ho4, hb4⟩
            have hf := Lib.hid (show ∃ p c, Ending.returned (.slice p4 zs.length c4) = .returned (.slice p zs.length c) ∧ Rd w4 p c zs ∧ Kp w w4 from ⟨_, _, rfl, ho4.rd, Kp.nx G.out.kw hb4⟩)
            clear HSh ho4 hb4 G
            go_wp2_with fail
            go_ret
            exact hf.out
      · have l1 := G.out.pu hx0
        have l2 := G.out.pv hy0
        have HM1 := Lib.hid G.out.mu1
        have HM2 := Lib.hid G.out.mu2
        obtain ⟨n1, hn1⟩ : ∃ z, z = RN.smN X := ⟨_, rfl⟩
        obtain ⟨n2, hn2⟩ : ∃ z, z = RN.smN Y := ⟨_, rfl⟩
        obtain ⟨z1, hz1⟩ : ∃ z, z = RN.smB X := ⟨_, rfl⟩
        obtain ⟨z2, hz2⟩ : ∃ z, z = RN.smB Y := ⟨_, rfl⟩
        have HS1 := Lib.hid (RN.small2 G.out.su rfl (by omega) n1 z1 (by rw [G.out.vu]; exact hn1) (by rw [G.out.vu]; exact hz1))
        have HS2 := Lib.hid (fun (w1 : World) (h : Kp wr w1) => RN.small2 (G.out.nx h).sv rfl (by omega) n2 z2 (by rw [G.out.vv]; exact hn2) (by rw [G.out.vv]; exact hz2))
        obtain ⟨wo, rfl⟩ : ∃ wo : World, wo = wr := ⟨_, rfl⟩
        by_cases hz : z1 = true ∧ z2 = true
        · obtain ⟨rfl, rfl⟩ := hz
          have hX : X < 18446744073709551616 := by unfold RN.smB at hz1; simpa using hz1.symm
          have hY : Y < 18446744073709551616 := by unfold RN.smB at hz2; simpa using hz2.symm
          obtain rfl : n1 = X := by rw [hn1, RN.smN, if_pos hX]
          obtain rfl : n2 = Y := by rw [hn2, RN.smN, if_pos hY]
          have HX0' := Lib.hid hx0
          have HY0' := Lib.hid hy0
          clear hn1 hn2 hz1 hz2 hx0 hy0
          go_wp2_with fail
          refine HS1.out.mono ?_; rintro e w3 ⟨rfl, hb3⟩
          replace G := Lib.hid (G.out.nx hb3)
          have HS3 := Lib.hid (HS2.out w3 hb3)
          clear HS1 HS2 hb3
          go_wp2_with fail
          refine HS3.out.mono ?_; rintro e w4 ⟨rfl, hb4⟩
          replace G := Lib.hid (G.out.nx hb4)
          clear HS3 hb4
          go_wp2_with fail
          go_loopw [6, 8] (fun s4 s6 wx => ∃ x y : Nat, s4 = .int .u64 (x : Int) ∧ s6 = .int .u64 (y : Int) ∧ x < 18446744073709551616 ∧ y < 18446744073709551616 ∧ Hid (Nat.gcd x y = Nat.gcd n1 n2) ∧ ∃ q, w4.drewN q = wx) (fun _ s6 _ => (intOf s6).toNat)
          case atStart => exact ⟨n1, n2, rfl, rfl, hX, hY, rfl, 0, rfl⟩
          case round =>
            obtain ⟨x, y, rfl, rfl, hx, hy, E, nd, rfl⟩ := hrel
            by_cases h0 : y = 0
            · subst h0
              have hg := E.out
              rw [Nat.gcd_zero_right] at hg
              obtain ⟨gs, hgs⟩ : ∃ z, z = L x := ⟨_, rfl⟩
              have HGS := Lib.hid hgs
              have HO := Lib.hid (RN.of x (w4.drewN nd) hx hgs)
              have hfx : Fits x M := by rw [hg]; exact G.out.fx.mono (Nat.gcd_le_left _ (Nat.pos_of_ne_zero HX0'.out))
              have HF := Lib.hid hfx
              have hlt := Lib.hid (show x < n1 + n2 by
                have h1 := Nat.gcd_le_left n2 (Nat.pos_of_ne_zero HX0'.out)
                have h2 := HY0'.out
                omega)
              have Q2 := Lib.hid (show (x % 2 = 1 ∨ 0 % 2 = 1 ∨ 0 = 0) ∧ Nat.gcd x 0 * 2 ^ t = Nat.gcd X0 Y0 from ⟨.inr (.inr rfl), by rw [Nat.gcd_zero_right, hg]; exact Q.out.2⟩)
              clear hgs hg hfx E Q
              go_wp2_with fail
              refine HO.out.mono ?_; rintro e w5 ⟨p5, c5, rfl, ho5, hb5⟩
              have G2 := Lib.hid (show P2 w w5 M p5 none c5 0 x 0 gs [] from ⟨HF.out, by unfold Fits; exact Nat.pow_pos (by decide), HGS.out, rfl, ho5.rd, Rd.nil _, Kp.nx (G.out.kw.dr nd) hb5⟩)
              have HM3 := Lib.hid G2.out.mu1
              have HM4 := Lib.hid G2.out.mu2
              clear HO ho5 hb5
              go_wp2_with fail
              go_roundw
              case rel => exact ⟨p5, none, c5, 0, x, 0, gs, [], rfl, rfl, G2, Lib.hid ⟨.inr (.inr rfl), Q2.out.2⟩⟩
              case measure => have h1 := HM1.out; have h2 := HM2.out; have h3 := HM3.out; have h4 := HM4.out; have := hlt.out; simp only [List.length_nil] at h4; rw [h1, h2, h3, h4]; omega
            · have E2 := Lib.hid (show Nat.gcd y (x % y) = Nat.gcd n1 n2 by rw [← E.out, Nat.gcd_comm x y, Nat.gcd_rec y x, Nat.gcd_comm])
              have hmod := Nat.mod_lt x (show 0 < y by omega)
              have hne : ¬ ((y : Int) = 0) := by omega
              have hpos : (0 : Int) < (y : Int) := by omega
              clear E
              go_wp2_with fail
              go_quiet (fail)
              go_wp2_with fail
              go_roundw
              case rel => exact ⟨y, x % y, rfl, by go_num, hy, by omega, E2, nd + nq, by rw [World.drewN_drewN]⟩
              case measure => simp [intOf]; omega
        · skip
          have hcs : (z1 = false ∧ z2 = false) ∨ (z1 = false ∧ z2 = true) ∨ (z1 = true ∧ z2 = false) := by revert hz; cases z1 <;> cases z2 <;> simp
          have HX0' := Lib.hid hx0
          have HY0' := Lib.hid hy0
          have BX := Lib.hid (fun (w1 : World) (h : Kp wo w1) (z : Bool) (hz : z = (X % 2 == 1)) => bit0 (G.out.nx h).su rfl (by omega) z (show z = (V us % 2 == 1) by rw [G.out.vu]; exact hz))
          have BY := Lib.hid (fun (w1 : World) (h : Kp wo w1) (z : Bool) (hz : z = (Y % 2 == 1)) => bit0 (G.out.nx h).sv rfl (by omega) z (show z = (V vs % 2 == 1) by rw [G.out.vv]; exact hz))
          have hpar : (X % 2 = 0) ∨ (X % 2 = 1 ∧ Y % 2 = 0) ∨ (X % 2 = 1 ∧ Y % 2 = 1 ∧ Y ≤ X) ∨ (X % 2 = 1 ∧ Y % 2 = 1 ∧ X < Y) := by omega
          clear hn1 hn2 hz1 hz2 hz hx0 hy0
          have K0 := Lib.hid (Kp.refl wo)
          rcases hcs with ⟨rfl, rfl⟩ | ⟨rfl, rfl⟩ | ⟨rfl, rfl⟩
          all_goals
            rcases hpar with hX | ⟨hX, hY⟩ | ⟨hX, hY, hle⟩ | ⟨hX, hY, hle⟩
            · have e1 := Lib.hid (show false = (X % 2 == 1) by rw [hX]; rfl)
              obtain ⟨rs, hrs⟩ : ∃ z, z = L (X / 2) := ⟨_, rfl⟩
              have HRS := Lib.hid hrs
              have hlt := Lib.hid (show X / 2 < X by have := HX0'.out; omega)
              have Q2 := Lib.hid (show (X / 2 % 2 = 1 ∨ Y % 2 = 1 ∨ Y = 0) ∧ Nat.gcd (X / 2) Y * 2 ^ t = Nat.gcd X0 Y0 from by
                have h1 : Y % 2 = 1 := by have := Q.out.1; have := HY0'.out; omega
                exact ⟨.inr (.inl h1), by rw [gcd_half hX h1]; exact Q.out.2⟩)
              clear hrs hX BY
              go_wp2_with fail
              refine HS1.out.mono ?_; rintro e w3 ⟨rfl, hb3⟩
              have HS3 := Lib.hid (HS2.out w3 hb3)
              replace K0 := Lib.hid (Kp.nx K0.out hb3)
              clear HS1 HS2 hb3
              go_wp2_with fail
              refine HS3.out.mono ?_; rintro e w4 ⟨rfl, hb4⟩
              replace K0 := Lib.hid (Kp.nx K0.out hb4)
              have BX4 := Lib.hid (BX.out w4 K0.out false e1.out)
              clear HS3 hb4 BX
              go_wp2_with fail
              refine BX4.out.mono ?_; rintro e w5 ⟨rfl, hb5⟩
              replace K0 := Lib.hid (Kp.nx K0.out hb5)
              replace G := Lib.hid (G.out.nx K0.out)
              clear BX4 hb5
              have HS := Lib.hid (half1 (zs := rs) G.out.su rfl (by omega) (by rw [G.out.vu]; exact HRS.out))
              go_wp2_with fail
              refine HS.out.mono ?_; rintro e w6 ⟨p6, c6, rfl, ho6, hb6⟩
              replace G := Lib.hid (G.out.setU hb6 HRS.out ho6.rd (G.out.fx.div 2))
              have HM3 := Lib.hid G.out.mu1
              have HM4 := Lib.hid G.out.mu2
              clear HS ho6 hb6
              go_wp2_with fail
              go_roundw
              case rel => exact ⟨p6, q, c6, d, X / 2, Y, rs, vs, rfl, rfl, G, Q2⟩
              case measure => have := hlt.out; rw [HM1.out, HM2.out, HM3.out, HM4.out]; omega
            · have e1 := Lib.hid (show true = (X % 2 == 1) by rw [hX]; rfl)
              have e2 := Lib.hid (show false = (Y % 2 == 1) by rw [hY]; rfl)
              obtain ⟨rs, hrs⟩ : ∃ z, z = L (Y / 2) := ⟨_, rfl⟩
              have HRS := Lib.hid hrs
              have hlt := Lib.hid (show Y / 2 < Y by have := HY0'.out; omega)
              have Q2 := Lib.hid (show (X % 2 = 1 ∨ Y / 2 % 2 = 1 ∨ Y / 2 = 0) ∧ Nat.gcd X (Y / 2) * 2 ^ t = Nat.gcd X0 Y0 from
                ⟨.inl hX, by rw [Nat.gcd_comm, gcd_half hY hX, Nat.gcd_comm]; exact Q.out.2⟩)
              clear hrs hX hY
              go_wp2_with fail
              refine HS1.out.mono ?_; rintro e w3 ⟨rfl, hb3⟩
              have HS3 := Lib.hid (HS2.out w3 hb3)
              replace K0 := Lib.hid (Kp.nx K0.out hb3)
              clear HS1 HS2 hb3
              go_wp2_with fail
              refine HS3.out.mono ?_; rintro e w4 ⟨rfl, hb4⟩
              replace K0 := Lib.hid (Kp.nx K0.out hb4)
              have BX4 := Lib.hid (BX.out w4 K0.out true e1.out)
              clear HS3 hb4 BX
              go_wp2_with fail
              refine BX4.out.mono ?_; rintro e w5 ⟨rfl, hb5⟩
              replace K0 := Lib.hid (Kp.nx K0.out hb5)
              have BY5 := Lib.hid (BY.out w5 K0.out false e2.out)
              clear BX4 hb5 BY
              go_wp2_with fail
              refine BY5.out.mono ?_; rintro e w6 ⟨rfl, hb6⟩
              replace K0 := Lib.hid (Kp.nx K0.out hb6)
              replace G := Lib.hid (G.out.nx K0.out)
              clear BY5 hb6
              have HS := Lib.hid (half1 (zs := rs) G.out.sv rfl (by omega) (by rw [G.out.vv]; exact HRS.out))
              go_wp2_with fail
              refine HS.out.mono ?_; rintro e w7 ⟨p6, c6, rfl, ho6, hb6⟩
              replace G := Lib.hid (G.out.setV hb6 HRS.out ho6.rd (G.out.fy.div 2))
              have HM3 := Lib.hid G.out.mu1
              have HM4 := Lib.hid G.out.mu2
              clear HS ho6 hb6
              go_wp2_with fail
              go_roundw
              case rel => exact ⟨p, p6, c, c6, X, Y / 2, us, rs, rfl, rfl, G, Q2⟩
              case measure => have := hlt.out; rw [HM1.out, HM2.out, HM3.out, HM4.out]; omega
            · have e1 := Lib.hid (show true = (X % 2 == 1) by rw [hX]; rfl)
              have e2 := Lib.hid (show true = (Y % 2 == 1) by rw [hY]; rfl)
              obtain ⟨rs, hrs⟩ : ∃ z, z = L (X - Y) := ⟨_, rfl⟩
              have HRS := Lib.hid hrs
              have hlt := Lib.hid (show X - Y < X by have := HX0'.out; have := HY0'.out; omega)
              obtain ⟨cz, hcz⟩ : ∃ z, z = NT.cmpI X Y := ⟨_, rfl⟩
              have hcz0 : 0 ≤ cz := by rw [hcz, NT.cmpI, if_neg (by omega)]; split <;> omega
              have Q2 := Lib.hid (show ((X - Y) % 2 = 1 ∨ Y % 2 = 1 ∨ Y = 0) ∧ Nat.gcd (X - Y) Y * 2 ^ t = Nat.gcd X0 Y0 from ⟨.inr (.inl hY), by rw [gcd_less hle]; exact Q.out.2⟩)
              have HLE := Lib.hid (show Y ≤ X by omega)
              have CM := Lib.hid (fun (w1 : World) (h : Kp wo w1) => RN.cmp (G.out.nx h).su (G.out.nx h).sv rfl rfl (by omega) (by omega) cz (by rw [G.out.vu, G.out.vv]; exact hcz))
              clear hrs hX hY hle hcz
              go_wp2_with fail
              refine HS1.out.mono ?_; rintro e w3 ⟨rfl, hb3⟩
              have HS3 := Lib.hid (HS2.out w3 hb3)
              replace K0 := Lib.hid (Kp.nx K0.out hb3)
              clear HS1 HS2 hb3
              go_wp2_with fail
              refine HS3.out.mono ?_; rintro e w4 ⟨rfl, hb4⟩
              replace K0 := Lib.hid (Kp.nx K0.out hb4)
              have BX4 := Lib.hid (BX.out w4 K0.out true e1.out)
              clear HS3 hb4 BX
              go_wp2_with fail
              refine BX4.out.mono ?_; rintro e w5 ⟨rfl, hb5⟩
              replace K0 := Lib.hid (Kp.nx K0.out hb5)
              have BY5 := Lib.hid (BY.out w5 K0.out true e2.out)
              clear BX4 hb5 BY
              go_wp2_with fail
              refine BY5.out.mono ?_; rintro e w6 ⟨rfl, hb6⟩
              replace K0 := Lib.hid (Kp.nx K0.out hb6)
              have CM6 := Lib.hid (CM.out w6 K0.out)
              clear BY5 hb6 CM
              go_wp2_with fail
              refine CM6.out.mono ?_; rintro e w7 ⟨rfl, hb7⟩
              replace K0 := Lib.hid (Kp.nx K0.out hb7)
              replace G := Lib.hid (G.out.nx K0.out)
              clear CM6 hb7
              have HS := Lib.hid (RN.sub_ok (zs := rs) G.out.su G.out.sv rfl rfl (by omega) (by omega) (by rw [G.out.vu, G.out.vv]; exact HRS.out) (by rw [G.out.vu, G.out.vv]; exact HLE.out))
              go_wp2_with fail
              refine HS.out.mono ?_; rintro e w8 ⟨p6, c6, rfl, ho6, hb6⟩
              replace G := Lib.hid (G.out.setU hb6 HRS.out ho6.rd (G.out.fx.sub Y))
              have HM3 := Lib.hid G.out.mu1
              have HM4 := Lib.hid G.out.mu2
              clear HS ho6 hb6
              go_wp2_with fail
              go_roundw
              case rel => exact ⟨p6, q, c6, d, X - Y, Y, rs, vs, rfl, rfl, G, Q2⟩
              case measure => have := hlt.out; rw [HM1.out, HM2.out, HM3.out, HM4.out]; omega
            · have e1 := Lib.hid (show true = (X % 2 == 1) by rw [hX]; rfl)
              have e2 := Lib.hid (show true = (Y % 2 == 1) by rw [hY]; rfl)
              obtain ⟨rs, hrs⟩ : ∃ z, z = L (Y - X) := ⟨_, rfl⟩
              have HRS := Lib.hid hrs
              have hlt := Lib.hid (show Y - X < Y by have := HX0'.out; have := HY0'.out; omega)
              obtain ⟨cz, hcz⟩ : ∃ z, z = NT.cmpI X Y := ⟨_, rfl⟩
              have hcz0 : cz < 0 := by rw [hcz, NT.cmpI, if_pos hle]; decide
              have Q2 := Lib.hid (show (X % 2 = 1 ∨ (Y - X) % 2 = 1 ∨ Y - X = 0) ∧ Nat.gcd X (Y - X) * 2 ^ t = Nat.gcd X0 Y0 from ⟨.inl hX, by rw [Nat.gcd_comm, gcd_less (Nat.le_of_lt hle), Nat.gcd_comm]; exact Q.out.2⟩)
              have HLE := Lib.hid (show X ≤ Y by omega)
              have CM := Lib.hid (fun (w1 : World) (h : Kp wo w1) => RN.cmp (G.out.nx h).su (G.out.nx h).sv rfl rfl (by omega) (by omega) cz (by rw [G.out.vu, G.out.vv]; exact hcz))
              clear hrs hX hY hle hcz
              go_wp2_with fail
              refine HS1.out.mono ?_; rintro e w3 ⟨rfl, hb3⟩
              have HS3 := Lib.hid (HS2.out w3 hb3)
              replace K0 := Lib.hid (Kp.nx K0.out hb3)
              clear HS1 HS2 hb3
              go_wp2_with fail
              refine HS3.out.mono ?_; rintro e w4 ⟨rfl, hb4⟩
              replace K0 := Lib.hid (Kp.nx K0.out hb4)
              have BX4 := Lib.hid (BX.out w4 K0.out true e1.out)
              clear HS3 hb4 BX
              go_wp2_with fail
              refine BX4.out.mono ?_; rintro e w5 ⟨rfl, hb5⟩
              replace K0 := Lib.hid (Kp.nx K0.out hb5)
              have BY5 := Lib.hid (BY.out w5 K0.out true e2.out)
              clear BX4 hb5 BY
              go_wp2_with fail
              refine BY5.out.mono ?_; rintro e w6 ⟨rfl, hb6⟩
              replace K0 := Lib.hid (Kp.nx K0.out hb6)
              have CM6 := Lib.hid (CM.out w6 K0.out)
              clear BY5 hb6 CM
              go_wp2_with fail
              refine CM6.out.mono ?_; rintro e w7 ⟨rfl, hb7⟩
              replace K0 := Lib.hid (Kp.nx K0.out hb7)
              replace G := Lib.hid (G.out.nx K0.out)
              clear CM6 hb7
              have HS := Lib.hid (RN.sub_ok (zs := rs) G.out.sv G.out.su rfl rfl (by omega) (by omega) (by rw [G.out.vv, G.out.vu]; exact HRS.out) (by rw [G.out.vv, G.out.vu]; exact HLE.out))
              go_wp2_with fail
              refine HS.out.mono ?_; rintro e w8 ⟨p6, c6, rfl, ho6, hb6⟩
              replace G := Lib.hid (G.out.setV hb6 HRS.out ho6.rd (G.out.fy.sub X))
              have HM3 := Lib.hid G.out.mu1
              have HM4 := Lib.hid G.out.mu2
              clear HS ho6 hb6
              go_wp2_with fail
              go_roundw
              case rel => exact ⟨p, p6, c, c6, X, Y - X, us, rs, rfl, rfl, G, Q2⟩
              case measure => have := hlt.out; rw [HM1.out, HM2.out, HM3.out, HM4.out]; omega
end Go.Proofs.RA
