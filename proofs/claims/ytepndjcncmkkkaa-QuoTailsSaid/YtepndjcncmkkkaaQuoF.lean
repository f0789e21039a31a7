/- quo.Div, and the document's Div, for any two naturals; greatest common divisors. -/
import Derived.Test.YtepndjcncmkkkaaQuoE
import Derived.Test.YtepndjcncmkkkaaQuoG
import Derived.ScopeJumps
namespace Go.Proofs.QR
open Go.RowKit
open Go.Proofs
open Go.Proofs.NP
open Go.Proofs.SL
open Go.Proofs.NR
open Go.Proofs.QT (GivesQ)
set_option linter.unusedVariables false
set_option linter.unusedSimpArgs false
variable {w : World} {a b : Option Addr} {ca cb l k : Nat} {xs ys zs : List Nat}

/-- what is left, as it is told -/
def drL (x y : Nat) : List Nat := if y = 0 then [] else L (x % y)
def dE (y : Nat) : Int := if y = 0 then 7 else 0

theorem div1 (hx : Rd w a ca xs) (hy : Rd w b cb ys) (lx : xs.length = l) (ly : ys.length = k) (h : l ≤ 10000) (h' : k ≤ 10000) (qs rs : List Nat) (c : Int) (hq : qs = L (V xs / V ys)) (hr : rs = drL (V xs) (V ys)) (hc : c = dE (V ys)) :
    Calls Try.prog 14 #[.slice a l ca, .slice b k cb] w (GivesQ w qs rs c) := by
  by_cases h0 : V ys = 0
  · obtain rfl : qs = [] := by rw [hq, h0, Nat.div_zero]; rfl
    obtain rfl : rs = [] := by rw [hr, drL, if_pos h0]
    obtain rfl : c = 7 := by rw [hc, dE, if_pos h0]
    exact QT.div_zero hx hy lx ly h h' h0
  · rw [drL, if_neg h0] at hr
    obtain rfl : c = 0 := by rw [hc, dE, if_neg h0]
    rcases Nat.lt_or_ge (V xs) (V ys) with hlt | hge
    · obtain rfl : qs = [] := by rw [hq, Nat.div_eq_of_lt hlt]; rfl
      exact QT.div_less hx hy lx ly h h' hlt (by rw [hr, Nat.mod_eq_of_lt hlt])
    · obtain ⟨bs, hbs⟩ : ∃ bs, bs = L (V ys) := ⟨_, rfl⟩
      match bs, hbs with
      | [], hbs => exact absurd ((L_nil _).1 hbs.symm) h0
      | [d], hbs => exact QT.div_short hx hy lx ly h h' d hbs.symm hge qs rs hq hr
      | d :: e :: bs, hbs => exact QT.div_long hx hy lx ly h h' bs.length (by rw [← hbs]; rfl) hge qs rs hq hr

theorem div2 (hx : Rd w a ca xs) (hy : Rd w b cb ys) (lx : xs.length = l) (ly : ys.length = k) (h : l ≤ 10000) (h' : k ≤ 10000) (qs rs : List Nat) (c : Int) (hq : qs = L (V xs / V ys)) (hr : rs = drL (V xs) (V ys)) (hc : c = dE (V ys)) :
    Calls Try.prog 13 #[.slice a l ca, .slice b k cb] w (GivesR w qs rs c) := by
  by_cases h0 : V ys = 0
  · obtain rfl : qs = [] := by rw [hq, h0, Nat.div_zero]; rfl
    obtain rfl : rs = [] := by rw [hr, drL, if_pos h0]
    obtain rfl : c = 7 := by rw [hc, dE, if_pos h0]
    exact QR.div_zero hy ly h' h0
  · rw [drL, if_neg h0] at hr
    obtain rfl : c = 0 := by rw [hc, dE, if_neg h0]
    exact QR.div_ok hx hy lx ly h h' (by omega) qs rs hq hr

/-- what a slice reads as, for a measure -/
def rdl (w : World) (p : Option Addr) (n : Nat) : List Nat := match p with
  | some a => (List.range n).map fun i => match w.cell? ⟨a.block, a.off + i, none⟩ with | some (.int _ z) => z.toNat | _ => 0
  | none => []
theorem rdl_eq {p : Option Addr} {c : Nat} (h : Rd w p c xs) : rdl w p xs.length = xs := by
  rcases h.at' with h0 | ⟨b, off, rfl, _, hc⟩
  · subst h0; unfold rdl; cases p <;> rfl
  · unfold rdl
    apply List.ext_getElem
    · simp
    · intro i h1 h2
      simp [hc i h2]
def mu : Value → World → Nat
  | .slice q n _, w => V (rdl w q n)
  | _, _ => 0
theorem mu_eq {p : Option Addr} {c Y : Nat} (h : Rd w p c xs) (hY : xs = L Y) : mu (.slice p xs.length c) w = Y := by
  show V (rdl w p xs.length) = Y
  rw [rdl_eq h, hY, V_L]

set_option maxHeartbeats 2000000 in
theorem gcd2 (hx : Rd w a ca xs) (hy : Rd w b cb ys) (lx : xs.length = l) (ly : ys.length = k) (h : l ≤ 10000) (h' : k ≤ 10000) (hz : zs = L (Nat.gcd (V xs) (V ys))) :
    Calls Try.prog 17 #[.slice a l ca, .slice b k cb] w fun e w' => ∃ p c, e = .returned (.slice p zs.length c) ∧ Rd w' p c zs ∧ Kp w w' := by
  obtain ⟨es, hes⟩ : ∃ es, es = L (V xs) := ⟨_, rfl⟩
  obtain ⟨bs, hbs⟩ : ∃ bs, bs = L (V ys) := ⟨_, rfl⟩
  have lea : es.length ≤ 10000 := by have := L_V_len hx.ws; rw [hes]; omega
  have leb : bs.length ≤ 10000 := by have := L_V_len hy.ws; rw [hbs]; omega
  obtain ⟨M, hM1, hM2⟩ : ∃ M, 10000 ≤ M ∧ M ≤ 10000 := ⟨10000, Nat.le_refl _, Nat.le_refl _⟩
  have FX := Lib.hid (show Fits (V xs) M from Fits.of hx.ws (by omega))
  have FY := Lib.hid (show Fits (V ys) M from Fits.of hy.ws (by omega))
  have HA := Lib.hid (RN.trim hx lx (by omega) hes)
  have HB := Lib.hid (fun (w1 : World) (hy : Rd w1 b cb ys) => RN.trim hy ly (by omega) hbs)
  have HY := Lib.hid hy
  have HZ := Lib.hid hz
  have HEA := Lib.hid hes
  have HEB := Lib.hid hbs
  clear hx hy lx ly hz hes hbs
  go_enter Try.func17, Try.ntmps17
  go_wp2_with fail
  refine HA.out.mono ?_
  rintro e w1 ⟨p1, c1, rfl, ho1, hb1⟩
  have HY1 := HY.out.nx hb1
  have HO1 := Lib.hid ho1.rd
  have HK := Lib.hid hb1
  clear HA hb1 HY ho1
  go_wp2_with fail
  refine (HB.out w1 HY1).mono ?_
  rintro e w2 ⟨p2, c2, rfl, ho2, hb2⟩
  have HO2 := Lib.hid ho2.rd
  have HO1' := Lib.hid (HO1.out.nx hb2)
  have HK2 := Lib.hid (Kp.nx HK.out hb2)
  clear HB HY1 HK ho2 hb2 HO1
  go_wp2_with fail
  go_loopw [0, 1] (fun s0 s1 wr => ∃ (p q : Option Addr) (c d X Y : Nat) (us vs : List Nat), s0 = .slice p us.length c ∧ s1 = .slice q vs.length d ∧ us.length ≤ 10000 ∧ vs.length ≤ 10000 ∧ Hid (us = L X) ∧ Hid (vs = L Y) ∧ Hid (Fits X M) ∧ Hid (Fits Y M) ∧ Hid (Nat.gcd X Y = Nat.gcd (V xs) (V ys)) ∧ Hid (Rd wr p c us) ∧ Hid (Rd wr q d vs) ∧ Hid (Kp w2 wr)) (fun _ s1 wr => mu s1 wr)
  case atStart => exact ⟨p1, p2, c1, c2, _, _, es, bs, rfl, rfl, lea, leb, HEA.out, HEB.out, FX.out, FY.out, rfl, HO1'.out, HO2.out, Kp.refl _⟩
  case round =>
    obtain ⟨p, q, c, d, X, Y, us, vs, rfl, rfl, lu, lv, EU, EV, FU, FV, EG, SU, SV, KW⟩ := hrel
    by_cases h0 : Y = 0
    · subst h0
      obtain rfl : vs = [] := EV.out
      obtain rfl : us = zs := by rw [EU.out, HZ.out, ← EG.out, Nat.gcd_zero_right]
      have hf := Lib.hid (show ∃ p' c', Ending.returned (.slice p us.length c) = .returned (.slice p' us.length c') ∧ Rd wr p' c' us ∧ Kp w wr from ⟨p, c, rfl, SU.out, Kp.nx HK2.out KW.out⟩)
      clear EU EV FU FV EG SU SV KW HZ
      simp only [List.length_nil]
      go_wp2_with fail
      go_ret
      exact hf.out
    · have hl0 : 0 < vs.length := by
        rcases Nat.eq_zero_or_pos vs.length with h | h
        · have := List.eq_nil_of_length_eq_zero h; rw [EV.out, L_nil] at this; exact absurd this h0
        · exact h
      obtain ⟨qs, hqs⟩ : ∃ z, z = L (X / Y) := ⟨_, rfl⟩
      obtain ⟨rs, hrs⟩ : ∃ z, z = L (X % Y) := ⟨_, rfl⟩
      have HDV := Lib.hid (div2 SU.out SV.out rfl rfl lu lv qs rs 0 (by rw [hqs, EU.out, EV.out, V_L, V_L]) (by rw [hrs, EU.out, EV.out, V_L, V_L, drL, if_neg h0]) (by rw [EV.out, V_L, dE, if_neg h0]))
      have fr : Fits (X % Y) M := FV.out.mono (Nat.le_of_lt (Nat.mod_lt _ (by omega)))
      have lr : rs.length ≤ 10000 := by rw [hrs]; exact Nat.le_trans fr.len (by omega)
      have HF := Lib.hid fr
      have HM0 := Lib.hid (mu_eq SV.out EV.out)
      have HRS := Lib.hid hrs
      have HLT := Lib.hid (Nat.mod_lt X (show 0 < Y by omega))
      have HG2 := Lib.hid (show Nat.gcd Y (X % Y) = Nat.gcd (V xs) (V ys) by rw [← EG.out, Nat.gcd_comm X Y, Nat.gcd_rec Y X, Nat.gcd_comm])
      obtain ⟨wo, rfl⟩ : ∃ wo : World, wo = wr := ⟨_, rfl⟩
      clear hqs hrs fr h0
      go_wp2_with fail
      refine HDV.out.mono ?_; rintro e w3 ⟨p3, c3, p4, c4, rfl, ho3, ho4, hb3⟩
      have SV3 := Lib.hid (SV.out.nx hb3)
      have SR3 := Lib.hid ho4
      have KW3 := Lib.hid (Kp.nx KW.out hb3)
      have HM1 := Lib.hid (mu_eq ho4 HRS.out)
      clear HDV ho3 ho4 hb3
      go_wp2_with fail
      go_roundw
      case rel => exact ⟨q, p4, d, c4, Y, X % Y, vs, rs, rfl, rfl, lv, lr, EV, HRS, FV, HF, HG2, SV3, SR3, KW3⟩
      case measure => rw [HM0.out, HM1.out]; exact HLT.out

/-- what holds at every pass of Gcd -/
structure GAt (w wr : World) (M X0 Y0 : Nat) (p q : Option Addr) (c d X Y : Nat) (us vs : List Nat) : Prop where
  lu : us.length ≤ M
  lv : vs.length ≤ M
  eu : us = L X
  ev : vs = L Y
  fx : Fits X M
  fy : Fits Y M
  eg : Nat.gcd X Y = Nat.gcd X0 Y0
  su : Own 36 w.heap.size wr p c us
  sv : Own 36 w.heap.size wr q d vs
  kw : Kp w wr

theorem GAt.next {w wr w' : World} {M X0 Y0 : Nat} {p q r : Option Addr} {c d e X Y : Nat} {us vs rs : List Nat} (G : GAt w wr M X0 Y0 p q c d X Y us vs) (h0 : Y ≠ 0) (hr : rs = L (X % Y)) (hk : Kp wr w') (ho : Own 36 wr.heap.size w' r e rs) :
    GAt w w' M X0 Y0 q r d e Y (X % Y) vs rs ∧ mu (.slice r rs.length e) w' < mu (.slice q vs.length d) wr := by
  have fr : Fits (X % Y) M := G.fy.mono (Nat.le_of_lt (Nat.mod_lt _ (by omega)))
  refine ⟨⟨G.lv, by rw [hr]; exact fr.len, G.ev, hr, G.fy, fr, ?_, G.sv.nx hk, ho.mono G.kw.size, Kp.nx G.kw hk⟩, ?_⟩
  · rw [← G.eg, Nat.gcd_comm X Y, Nat.gcd_rec Y X, Nat.gcd_comm]
  · rw [mu_eq ho.rd hr, mu_eq G.sv.rd G.ev]; exact Nat.mod_lt _ (by omega)

set_option maxHeartbeats 4000000 in
theorem gcd1 (hx : Rd w a ca xs) (hy : Rd w b cb ys) (lx : xs.length = l) (ly : ys.length = k) (h : l ≤ 10000) (h' : k ≤ 10000) (hz : zs = L (Nat.gcd (V xs) (V ys))) :
    Calls Try.prog 18 #[.slice a l ca, .slice b k cb] w (Gives 36 w zs) := by
  obtain ⟨es, hes⟩ : ∃ es, es = L (V xs) := ⟨_, rfl⟩
  obtain ⟨bs, hbs⟩ : ∃ bs, bs = L (V ys) := ⟨_, rfl⟩
  have lea : es.length ≤ 10000 := by have := L_V_len hx.ws; rw [hes]; omega
  have leb : bs.length ≤ 10000 := by have := L_V_len hy.ws; rw [hbs]; omega
  obtain ⟨M, hM1, hM2⟩ : ∃ M, 10000 ≤ M ∧ M ≤ 10000 := ⟨10000, Nat.le_refl _, Nat.le_refl _⟩
  have FX := Lib.hid (show Fits (V xs) M from Fits.of hx.ws (by omega))
  have FY := Lib.hid (show Fits (V ys) M from Fits.of hy.ws (by omega))
  have HA := Lib.hid (NR.trim hx lx (by omega) hes)
  have HB := Lib.hid (fun (w1 : World) (hy : Rd w1 b cb ys) => NR.trim hy ly (by omega) hbs)
  have HY := Lib.hid hy
  have HZ := Lib.hid hz
  have HEA := Lib.hid hes
  have HEB := Lib.hid hbs
  obtain ⟨X0, hX0⟩ : ∃ X, X = V xs := ⟨_, rfl⟩
  obtain ⟨Y0, hY0⟩ : ∃ X, X = V ys := ⟨_, rfl⟩
  rw [← hX0] at FX HEA HZ
  rw [← hY0] at FY HEB HZ
  clear hx hy lx ly hz hes hbs hX0 hY0
  have HDV := Lib.hid (fun (wr : World) (p q : Option Addr) (c d X Y : Nat) (us vs : List Nat) (G : GAt w wr M X0 Y0 p q c d X Y us vs) (h0 : Y ≠ 0) => div1 G.su.rd G.sv.rd rfl rfl (Nat.le_trans G.lu hM2) (Nat.le_trans G.lv hM2) (L (X / Y)) (L (X % Y)) 0 (by rw [G.eu, G.ev, V_L, V_L]) (by rw [G.eu, G.ev, V_L, V_L, drL, if_neg h0]) (by rw [G.ev, V_L, dE, if_neg h0]))
  go_enter Try.func18, Try.ntmps18
  go_wp2
  refine wp_scope_jumps 0 (fun a' w' => ∃ (p q : Option Addr) (c d X Y : Nat) (us vs : List Nat) (u4 u5 u6 u7 u8 u9 u10 u11 u12 u13 u14 u15 u16 u17 u18 u19 u20 u21 u22 u23 u24 : Value), a' = { tmps := #[.slice p us.length c, .slice q vs.length d, undef, undef, u4, u5, u6, u7, u8, u9, u10, u11, u12, u13, u14, u15, u16, u17, u18, u19, u20, u21, u22, u23, u24], defers := [] } ∧ Hid (GAt w w' M X0 Y0 p q c d X Y us vs)) (fun a' w' => mu (a'.tmps.getD 1 undef) w') rfl ?_ ?_
  · go_wp2_with fail
    refine HA.out.mono ?_
    rintro e w1 ⟨p1, c1, rfl, ho1, hb1⟩
    have HY1 := HY.out.nx hb1
    have HO1 := Lib.hid ho1
    have HK := Lib.hid hb1
    clear HA hb1 HY ho1
    go_wp2_with fail
    refine (HB.out w1 HY1).mono ?_
    rintro e w2 ⟨p2, c2, rfl, ho2, hb2⟩
    have GA := Lib.hid (show GAt w w2 M X0 Y0 p1 p2 c1 c2 X0 Y0 es bs from ⟨by omega, by omega, HEA.out, HEB.out, FX.out, FY.out, rfl, HO1.out.nx hb2, ho2.mono HK.out.size, Kp.nx HK.out hb2⟩)
    clear HB HY1 HK ho2 hb2 HO1
    by_cases h0 : Y0 = 0
    · have G := GA.out
      rw [h0] at G
      have e1 : bs = [] := G.ev
      have e2 : es = zs := by first | rw [G.eu, HZ.out, ← G.eg, Nat.gcd_zero_right] | rw [G.eu, HZ.out, h0, Nat.gcd_zero_right]
      have hf := Lib.hid (show Gives 36 w zs (.returned (.slice p1 zs.length c1)) w2 from ⟨p1, c1, rfl, by have := G.su; rw [e2] at this; exact this, G.kw⟩)
      have hl : bs.length = 0 := by rw [e1]; rfl
      have hl2 : es.length = zs.length := by rw [e2]
      clear GA G e1 e2 HDV
      rw [hl, hl2]
      clear hl hl2
      go_wp2
      go_step3
      go_wp2
      simp only [Exit.jump]
      go_ret
      exact hf.out
    · have HD := Lib.hid (HDV.out w2 p1 p2 c1 c2 X0 Y0 es bs GA.out h0)
      have HN := Lib.hid (fun (rs : List Nat) (r : Option Addr) (e : Nat) (w' : World) hr hk ho => GAt.next (rs := rs) (r := r) (e := e) (w' := w') GA.out h0 hr hk ho)
      have hl : 0 < bs.length := by
        rcases Nat.eq_zero_or_pos bs.length with h | h
        · have := List.eq_nil_of_length_eq_zero h; rw [GA.out.ev, L_nil] at this; exact absurd this h0
        · exact h
      obtain ⟨rs, hrs⟩ : ∃ z, z = L (X0 % Y0) := ⟨_, rfl⟩
      obtain ⟨qs, hqs⟩ : ∃ z, z = L (X0 / Y0) := ⟨_, rfl⟩
      rw [← hrs, ← hqs] at HD
      have HRS := Lib.hid hrs
      have lU : es.length ≤ 10000 := Nat.le_trans GA.out.lu hM2
      have lV : bs.length ≤ 10000 := Nat.le_trans GA.out.lv hM2
      clear hrs hqs h0 HDV GA
      go_wp2_with fail
      go_step3
      go_wp2_with fail
      refine HD.out.mono ?_; rintro e w3 ⟨p3, c3, p4, c4, rfl, ho3, ho4, _, hb3⟩
      have G2 := Lib.hid (HN.out rs p4 c4 w3 HRS.out hb3 ho4)
      clear HD HN ho3 ho4 hb3
      go_wp2_with fail
      go_step3
      exact ⟨rfl, p2, p4, c2, c4, Y0, X0 % Y0, bs, rs, _, _, _, _, _, _, _, _, _, _, _, _, _, _, _, _, _, _, _, _, _, rfl, G2.out.1⟩
  · rintro a' wr ⟨p, q, c, d, X, Y, us, vs, u4, u5, u6, u7, u8, u9, u10, u11, u12, u13, u14, u15, u16, u17, u18, u19, u20, u21, u22, u23, u24, rfl, GA⟩
    by_cases h0 : Y = 0
    · have G := GA.out
      rw [h0] at G
      have e1 : vs = [] := G.ev
      have e2 : us = zs := by first | rw [G.eu, HZ.out, ← G.eg, Nat.gcd_zero_right] | rw [G.eu, HZ.out, h0, Nat.gcd_zero_right]
      have hf := Lib.hid (show Gives 36 w zs (.returned (.slice p zs.length c)) wr from ⟨p, c, rfl, by have := G.su; rw [e2] at this; exact this, G.kw⟩)
      have hl : vs.length = 0 := by rw [e1]; rfl
      have hl2 : us.length = zs.length := by rw [e2]
      clear GA G e1 e2 HDV
      rw [hl, hl2]
      clear hl hl2
      go_wp2
      simp only [Exit.jump]
      go_ret
      exact hf.out
    · have HD := Lib.hid (HDV.out wr p q c d X Y us vs GA.out h0)
      have HN := Lib.hid (fun (rs : List Nat) (r : Option Addr) (e : Nat) (w' : World) hr hk ho => GAt.next (rs := rs) (r := r) (e := e) (w' := w') GA.out h0 hr hk ho)
      have hl : 0 < vs.length := by
        rcases Nat.eq_zero_or_pos vs.length with h | h
        · have := List.eq_nil_of_length_eq_zero h; rw [GA.out.ev, L_nil] at this; exact absurd this h0
        · exact h
      obtain ⟨rs, hrs⟩ : ∃ z, z = L (X % Y) := ⟨_, rfl⟩
      obtain ⟨qs, hqs⟩ : ∃ z, z = L (X / Y) := ⟨_, rfl⟩
      rw [← hrs, ← hqs] at HD
      have HRS := Lib.hid hrs
      have lU : us.length ≤ 10000 := Nat.le_trans GA.out.lu hM2
      have lV : vs.length ≤ 10000 := Nat.le_trans GA.out.lv hM2
      clear hrs hqs h0 HDV GA
      go_wp2_with fail
      refine HD.out.mono ?_; rintro e w3 ⟨p3, c3, p4, c4, rfl, ho3, ho4, _, hb3⟩
      have G2 := Lib.hid (HN.out rs p4 c4 w3 HRS.out hb3 ho4)
      clear HD HN ho3 ho4 hb3
      go_wp2_with fail
      go_step3
      exact ⟨rfl, ⟨q, p4, d, c4, Y, X % Y, vs, rs, _, _, _, _, _, _, _, _, _, _, _, _, _, _, _, _, _, _, _, _, _, rfl, G2.out.1⟩, G2.out.2⟩
end Go.Proofs.QR
