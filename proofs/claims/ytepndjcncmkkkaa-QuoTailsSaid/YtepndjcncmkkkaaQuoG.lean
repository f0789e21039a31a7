/- The document's functions of layer 3: Div. -/
import Derived.Test.YtepndjcncmkkkaaQuoD
import Derived.Test.YtepndjcncmkkkaaRefG
import Derived.Test.YtepndjcncmkkkaaRefH
namespace Go.Proofs.QR
open Go.RowKit
open Go.Proofs
open Go.Proofs.NP
open Go.Proofs.SL
open Go.Proofs.NR
set_option linter.unusedVariables false
set_option linter.unusedSimpArgs false
variable {w : World} {a b : Option Addr} {ca cb l k : Nat} {xs ys zs : List Nat}

/-- a place more of a number that is divided -/
theorem bitdiv (z be y : Nat) (hy : 0 < y) (hb : be ≤ 1) : (2 * z + be) / y = (z / y + z / y) + (if y ≤ (z % y + z % y) + be then 1 else 0) ∧ (2 * z + be) % y = (z % y + z % y) + be - (if y ≤ (z % y + z % y) + be then y else 0) := by
  have e := Nat.div_add_mod z y
  have lt := Nat.mod_lt z hy
  generalize z / y = q at *
  generalize z % y = r at *
  subst e
  have h2 : 2 * (y * q + r) + be = (r + r + be) + y * (q + q) := by rw [Nat.mul_add, Nat.mul_add]; omega
  rw [h2, Nat.add_mul_div_left _ _ hy, Nat.add_mul_mod_self_left]
  split
  · have : (r + r + be) / y = 1 := by
      rw [Nat.div_eq_iff hy]; omega
    have m := Nat.div_add_mod (r + r + be) y
    rw [this] at m ⊢
    omega
  · rw [Nat.div_eq_of_lt (by omega), Nat.mod_eq_of_lt (by omega)]; omega
theorem half (x i : Nat) : x / 2 ^ i = 2 * (x / 2 ^ (i + 1)) + x / 2 ^ i % 2 := by
  rw [Nat.pow_succ, ← Nat.div_div_eq_div_mul]; omega

theorem one (w : World) : Calls Try.prog 30 #[] w (Gives 36 w [1]) := by
  have hws : Ws [1] := ws_of _ (by decide +kernel)
  have ho := Own.lit (e := 36) (B := w.heap.size) (w := w) [1] hws #[.int .u64 1] rfl (Nat.le_refl _) (by decide)
  have hb := (Below.refl w.heap.size w).alloc (Nat.le_refl _) (.cells #[.int .u64 1] 36)
  have hf := Lib.hid (show Gives 36 w [1] (.returned (.slice (some ⟨w.heap.size, 0, none⟩) 1 1)) (w.alloc (.cells #[.int .u64 1] 36)) from ⟨_, _, rfl, ho, hb⟩)
  clear hws ho hb
  go_enter Try.func30, Try.ntmps30
  go_wp2_with fail
  go_ret
  exact hf.out

/-- a quotient, and what is left: to be read -/
def GivesR (w : World) (qs rs : List Nat) (c : Int) (en : Ending) (w' : World) : Prop :=
  ∃ p cp r cr, en = .returned (.tuple #[.slice p qs.length cp, .slice r rs.length cr, .int .i64 c]) ∧ Rd w' p cp qs ∧ Rd w' r cr rs ∧ Kp w w'

theorem div_zero (hy : Rd w b cb ys) (ly : ys.length = k) (h' : k ≤ 10000) (h0 : V ys = 0) :
    Calls Try.prog 13 #[.slice a l ca, .slice b k cb] w (GivesR w [] [] 7) := by
  have HL := Lib.hid (RN.len hy ly (by omega) 0 (by rw [h0]; rfl))
  clear hy ly h0
  go_enter Try.func13, Try.ntmps13
  go_wp2_with fail
  refine HL.out.mono ?_; rintro e w1 ⟨rfl, hb⟩
  have hf := Lib.hid (show GivesR w [] [] 7 (.returned (.tuple #[.slice none 0 0, .slice none 0 0, .int .i64 7])) w1 from ⟨none, 0, none, 0, rfl, Rd.nil _, Rd.nil _, hb⟩)
  clear hb
  go_wp2_with fail
  go_ret3
  exact hf.out

set_option maxHeartbeats 4000000 in
theorem div_ok (hx : Rd w a ca xs) (hy : Rd w b cb ys) (lx : xs.length = l) (ly : ys.length = k) (h : l ≤ 10000) (h' : k ≤ 10000) (h0 : 0 < V ys) (qs rs : List Nat) (hq : qs = L (V xs / V ys)) (hr : rs = L (V xs % V ys)) :
    Calls Try.prog 13 #[.slice a l ca, .slice b k cb] w (GivesR w qs rs 0) := by
  obtain ⟨X, hX⟩ : ∃ X, X = V xs := ⟨_, rfl⟩
  obtain ⟨Y, hY⟩ : ∃ Y, Y = V ys := ⟨_, rfl⟩
  obtain ⟨M, hM1, hM2⟩ : ∃ M, 10000 ≤ M ∧ M ≤ 10000 := ⟨10000, Nat.le_refl _, Nat.le_refl _⟩
  have FX : Fits X M := by rw [hX]; exact Fits.of hx.ws (by omega)
  have FY : Fits Y M := by rw [hY]; exact Fits.of hy.ws (by omega)
  obtain ⟨z1, hz1⟩ : ∃ z, z = bitLen Y := ⟨_, rfl⟩
  obtain ⟨z2, hz2⟩ : ∃ z, z = bitLen X := ⟨_, rfl⟩
  have hz10 : 0 < z1 := by rw [hz1]; exact bitLen_pos _ (by omega)
  have hz20 : z2 ≤ 640000 := by rw [hz2]; have := LN.bitLen_fits FX; omega
  rw [← hX, ← hY] at hq hr
  rw [← hY] at h0
  have HL := Lib.hid (fun (w1 : World) (hy : Rd w1 b cb ys) => RN.len hy ly (by omega) z1 (by rw [hz1, hY]))
  have HL2 := Lib.hid (fun (w1 : World) (hx : Rd w1 a ca xs) => RN.len hx lx (by omega) z2 (by rw [hz2, hX]))
  have HBt := Lib.hid (fun (w1 : World) (hx : Rd w1 a ca xs) (i : Nat) (hi : i ≤ 640000) (z : Bool) (hz : z = (X / 2 ^ i % 2 == 1)) => RN.bit hx lx (by omega) i (by omega) z (by rw [hz, hX]))
  have HAd := Lib.hid (fun (w1 : World) (p q : Option Addr) (c d : Nat) (us vs ws : List Nat) (h1 : Rd w1 p c us) (h2 : Rd w1 q d vs) (hl1 : us.length ≤ 10001) (hl2 : vs.length ≤ 10001) (hz : ws = L (V us + V vs)) => RN.add h1 h2 rfl rfl (by omega) (by omega) hz)
  have HCm := Lib.hid (fun (w1 : World) (p : Option Addr) (c : Nat) (us : List Nat) (h1 : Rd w1 p c us) (hy : Rd w1 b cb ys) (hl1 : us.length ≤ 10001) (z : Int) (hz : z = NT.cmpI (V us) Y) => RN.cmp h1 hy rfl ly (by omega) (by omega) z (by rw [hz, hY]))
  have HSu := Lib.hid (fun (w1 : World) (p : Option Addr) (c : Nat) (us vs : List Nat) (h1 : Rd w1 p c us) (hy : Rd w1 b cb ys) (hl1 : us.length ≤ 10001) (hz : vs = L (V us - Y)) (hle : Y ≤ V us) => RN.sub_ok (zs := vs) h1 hy rfl ly (by omega) (by omega) (hz.trans (by rw [hY])) (by rw [← hY]; exact hle))
  have HX := Lib.hid hx
  have HY := Lib.hid hy
  have HQ := Lib.hid hq
  have HR := Lib.hid hr
  have HY0 := Lib.hid h0
  have HFX := Lib.hid FX
  have HFY := Lib.hid FY
  have HZ2 := Lib.hid hz2
  clear hx hy lx ly hq hr hX hY hz1 hz2 FX FY h0
  go_enter Try.func13, Try.ntmps13
  go_wp2_with fail
  refine (HL.out _ HY.out).mono ?_; rintro e w1 ⟨rfl, hb1⟩
  have HX1 := Lib.hid (HX.out.nx hb1)
  have HY1 := Lib.hid (HY.out.nx hb1)
  have HK1 := Lib.hid hb1
  clear HL HX HY hb1
  go_wp2_with fail
  refine (HL2.out _ HX1.out).mono ?_; rintro e w2 ⟨rfl, hb2⟩
  have HX2 := Lib.hid (HX1.out.nx hb2)
  have HY2 := Lib.hid (HY1.out.nx hb2)
  have HK2 := Lib.hid (Kp.nx HK1.out hb2)
  clear HL2 HX1 HY1 HK1 hb2
  go_wp2_with fail
  go_loopw [7, 8, 9] (fun s7 s8 s9 wr => ∃ (k : Nat) (pq pr : Option Addr) (cq cr : Nat) (ql rl : List Nat), s7 = .slice pq ql.length cq ∧ s8 = .slice pr rl.length cr ∧ s9 = .int .i64 ((k : Int) - 1) ∧ k ≤ z2 ∧ Hid (ql = L (X / 2 ^ k / Y)) ∧ Hid (rl = L (X / 2 ^ k % Y)) ∧ Hid (Rd wr pq cq ql) ∧ Hid (Rd wr pr cr rl) ∧ Hid (Kp w2 wr)) (fun _ _ s _ => (intOf s + 1).toNat)
  case atStart =>
    have e0 : X / 2 ^ z2 = 0 := Nat.div_eq_of_lt ((bitLen_le_iff X z2).1 (by rw [HZ2.out]; exact Nat.le_refl _))
    exact ⟨z2, none, none, 0, 0, [], [], rfl, rfl, rfl, by omega, by rw [Hid, e0]; simp; rfl, by rw [Hid, e0]; simp; rfl, Rd.nil _, Rd.nil _, Kp.refl _⟩
  case round =>
    obtain ⟨k, pq, pr, cq, cr, ql, rl, rfl, rfl, rfl, hk, EQ, ER, SQ, SR, KW⟩ := hrel
    cases k with
    | zero =>
      have e1 := EQ.out
      have e2 := ER.out
      rw [Nat.pow_zero, Nat.div_one, ← HQ.out] at e1
      rw [Nat.pow_zero, Nat.div_one, ← HR.out] at e2
      subst e1 e2
      have hf := Lib.hid (show GivesR w ql rl 0 (.returned (.tuple #[.slice pq ql.length cq, .slice pr rl.length cr, .int .i64 0])) wr from ⟨pq, cq, pr, cr, rfl, SQ.out, SR.out, Kp.nx HK2.out KW.out⟩)
      clear EQ ER SQ SR KW HQ HR
      go_wp2_with fail
      go_ret3
      exact hf.out
    | succ i =>
      rw [show ((i + 1 : Nat) : Int) - 1 = (i : Int) by omega]
      obtain ⟨be, hbe⟩ : ∃ be, be = X / 2 ^ i % 2 := ⟨_, rfl⟩
      have hbe1 : be ≤ 1 := by omega
      obtain ⟨Z, hZ⟩ : ∃ Z, Z = X / 2 ^ (i + 1) := ⟨_, rfl⟩
      have hhalf := half X i
      rw [← hbe, ← hZ] at hhalf
      have hbd := bitdiv Z be Y HY0.out hbe1
      rw [← hhalf] at hbd
      rw [← hZ] at EQ ER
      have HBE := Lib.hid hbe
      obtain ⟨q0, hq0⟩ : ∃ q, q = Z / Y := ⟨_, rfl⟩
      obtain ⟨r0, hr0⟩ : ∃ r, r = Z % Y := ⟨_, rfl⟩
      rw [← hq0, ← hr0] at hbd
      rw [← hq0] at EQ
      rw [← hr0] at ER
      have fz : Fits Z M := by rw [hZ]; exact HFX.out.div _
      have lq : ql.length ≤ M := by rw [EQ.out]; exact Fits.len (by rw [hq0]; exact fz.div _)
      have lr : rl.length ≤ M := by rw [ER.out]; exact Fits.len (HFY.out.mono (by rw [hr0]; exact Nat.le_of_lt (Nat.mod_lt _ HY0.out)))
      have fr1 : ∀ be, be ≤ 1 → Fits (r0 + r0 + be) (M + 1) := by
        intro be hb
        have h1 : r0 < Y := by rw [hr0]; exact Nat.mod_lt _ HY0.out
        have h2 := HFY.out
        unfold Fits at h2 ⊢
        rw [Nat.pow_succ]
        generalize (18446744073709551616 : Nat) ^ M = B at h2 ⊢
        omega
      have fq1 : Fits (q0 + q0) (M + 1) := by
        have h1 : q0 ≤ X := by rw [hq0, hZ]; exact Nat.le_trans (Nat.div_le_self _ _) (Nat.div_le_self _ _)
        have h2 := HFX.out
        unfold Fits at h2 ⊢
        rw [Nat.pow_succ]
        generalize (18446744073709551616 : Nat) ^ M = B at h2 ⊢
        omega
      obtain ⟨q1, hq1⟩ : ∃ z, z = L (q0 + q0) := ⟨_, rfl⟩
      obtain ⟨r1, hr1⟩ : ∃ z, z = L (r0 + r0) := ⟨_, rfl⟩
      have lq1 : q1.length ≤ M + 1 := by rw [hq1]; exact fq1.len
      have lr1 : r1.length ≤ M + 1 := by rw [hr1]; exact (fr1 0 (by omega)).len
      have CA := Lib.hid (HAd.out wr pq pq cq cq ql ql q1 SQ.out SQ.out (by omega) (by omega) (by rw [hq1, EQ.out, V_L]))
      have VQ1 := Lib.hid (show V q1 = q0 + q0 by rw [hq1, V_L])
      have VR1 := Lib.hid (show V r1 = r0 + r0 by rw [hr1, V_L])
      have HR1 := Lib.hid (show r1 = L (V rl + V rl) by rw [hr1, ER.out, V_L])
      have HBD := Lib.hid hbd
      have FR1 := Lib.hid fr1
      have Q1E := Lib.hid hq1
      have R1E := Lib.hid hr1
      obtain ⟨wo, rfl⟩ : ∃ wo : World, wo = wr := ⟨_, rfl⟩
      clear hbe hZ hhalf hbd hq0 hr0 fz fr1 fq1 hq1 hr1 EQ ER
      have XW := Lib.hid (HX2.out.nx KW.out)
      have YW := Lib.hid (HY2.out.nx KW.out)
      have hdec : (r0 + r0 + be < Y ∨ Y ≤ r0 + r0 + be) ∧ (be = 0 ∨ be = 1) := ⟨Nat.lt_or_ge _ _, by omega⟩
      obtain ⟨hge, hb⟩ := hdec
      rcases hge with hge | hge
      · rcases hb with rfl | rfl
        · have HB := Lib.hid hge; clear hge
          go_wp2_with fail
          refine (CA.out).mono ?_; rintro e w3 ⟨pSQ1, cSQ1, rfl, ho, hb⟩
          have SQ1 : Hid (Rd w3 pSQ1 cSQ1 q1) := Lib.hid ho.rd
          clear ho
          clear SQ
          replace XW : Hid (Rd w3 a ca xs) := Lib.hid (XW.out.nx hb)
          replace YW : Hid (Rd w3 b cb ys) := Lib.hid (YW.out.nx hb)
          replace SR : Hid (Rd w3 pr cr rl) := Lib.hid (SR.out.nx hb)
          replace KW : Hid (Kp w2 w3) := Lib.hid (Kp.nx KW.out hb)
          clear hb
          go_wp2_with fail
          refine (HAd.out _ pr pr cr cr rl rl r1 SR.out SR.out (by omega) (by omega) HR1.out).mono ?_; rintro e w4 ⟨pSR1, cSR1, rfl, ho, hb⟩
          have SR1 : Hid (Rd w4 pSR1 cSR1 r1) := Lib.hid ho.rd
          clear ho
          clear SR
          replace XW : Hid (Rd w4 a ca xs) := Lib.hid (XW.out.nx hb)
          replace YW : Hid (Rd w4 b cb ys) := Lib.hid (YW.out.nx hb)
          replace SQ1 : Hid (Rd w4 pSQ1 cSQ1 q1) := Lib.hid (SQ1.out.nx hb)
          replace KW : Hid (Kp w2 w4) := Lib.hid (Kp.nx KW.out hb)
          clear hb
          have HBI := Lib.hid (HBt.out _ XW.out i (by omega) false (by rw [← HBE.out]; rfl))
          go_wp2_with fail
          refine (HBI.out).mono ?_; rintro e w5 ⟨rfl, hb⟩
          replace XW : Hid (Rd w5 a ca xs) := Lib.hid (XW.out.nx hb)
          replace YW : Hid (Rd w5 b cb ys) := Lib.hid (YW.out.nx hb)
          replace SQ1 : Hid (Rd w5 pSQ1 cSQ1 q1) := Lib.hid (SQ1.out.nx hb)
          replace SR1 : Hid (Rd w5 pSR1 cSR1 r1) := Lib.hid (SR1.out.nx hb)
          replace KW : Hid (Kp w2 w5) := Lib.hid (Kp.nx KW.out hb)
          clear hb
          clear HBI
          have HCI := Lib.hid (HCm.out _ pSR1 cSR1 r1 SR1.out YW.out (by omega) (-1) (by have := HB.out; rw [VR1.out, NT.cmpI, if_pos (by omega)]))
          go_wp2_with fail
          refine (HCI.out).mono ?_; rintro e w6 ⟨rfl, hb⟩
          replace XW : Hid (Rd w6 a ca xs) := Lib.hid (XW.out.nx hb)
          replace YW : Hid (Rd w6 b cb ys) := Lib.hid (YW.out.nx hb)
          replace SQ1 : Hid (Rd w6 pSQ1 cSQ1 q1) := Lib.hid (SQ1.out.nx hb)
          replace SR1 : Hid (Rd w6 pSR1 cSR1 r1) := Lib.hid (SR1.out.nx hb)
          replace KW : Hid (Kp w2 w6) := Lib.hid (Kp.nx KW.out hb)
          clear hb
          clear HCI
          have EQF : Hid (q1 = L (X / 2 ^ i / Y)) := Lib.hid (by have h1 := HBD.out.1; rw [if_neg (by have := HB.out; omega)] at h1; rw [Q1E.out, h1]; try rfl)
          have ERF : Hid (r1 = L (X / 2 ^ i % Y)) := Lib.hid (by have h1 := HBD.out.2; rw [if_neg (by have := HB.out; omega)] at h1; rw [R1E.out, h1]; try rfl)
          go_wp2_with fail
          go_roundw
          case rel => exact ⟨i, pSQ1, pSR1, cSQ1, cSR1, q1, r1, rfl, rfl, by go_num, by omega, EQF, ERF, SQ1, SR1, KW⟩
          case measure => simp [intOf]
        · have HB := Lib.hid hge; clear hge
          go_wp2_with fail
          refine (CA.out).mono ?_; rintro e w3 ⟨pSQ1, cSQ1, rfl, ho, hb⟩
          have SQ1 : Hid (Rd w3 pSQ1 cSQ1 q1) := Lib.hid ho.rd
          clear ho
          clear SQ
          replace XW : Hid (Rd w3 a ca xs) := Lib.hid (XW.out.nx hb)
          replace YW : Hid (Rd w3 b cb ys) := Lib.hid (YW.out.nx hb)
          replace SR : Hid (Rd w3 pr cr rl) := Lib.hid (SR.out.nx hb)
          replace KW : Hid (Kp w2 w3) := Lib.hid (Kp.nx KW.out hb)
          clear hb
          go_wp2_with fail
          refine (HAd.out _ pr pr cr cr rl rl r1 SR.out SR.out (by omega) (by omega) HR1.out).mono ?_; rintro e w4 ⟨pSR1, cSR1, rfl, ho, hb⟩
          have SR1 : Hid (Rd w4 pSR1 cSR1 r1) := Lib.hid ho.rd
          clear ho
          clear SR
          replace XW : Hid (Rd w4 a ca xs) := Lib.hid (XW.out.nx hb)
          replace YW : Hid (Rd w4 b cb ys) := Lib.hid (YW.out.nx hb)
          replace SQ1 : Hid (Rd w4 pSQ1 cSQ1 q1) := Lib.hid (SQ1.out.nx hb)
          replace KW : Hid (Kp w2 w4) := Lib.hid (Kp.nx KW.out hb)
          clear hb
          have HBI := Lib.hid (HBt.out _ XW.out i (by omega) true (by rw [← HBE.out]; rfl))
          go_wp2_with fail
          refine (HBI.out).mono ?_; rintro e w5 ⟨rfl, hb⟩
          replace XW : Hid (Rd w5 a ca xs) := Lib.hid (XW.out.nx hb)
          replace YW : Hid (Rd w5 b cb ys) := Lib.hid (YW.out.nx hb)
          replace SQ1 : Hid (Rd w5 pSQ1 cSQ1 q1) := Lib.hid (SQ1.out.nx hb)
          replace SR1 : Hid (Rd w5 pSR1 cSR1 r1) := Lib.hid (SR1.out.nx hb)
          replace KW : Hid (Kp w2 w5) := Lib.hid (Kp.nx KW.out hb)
          clear hb
          clear HBI
          go_wp2_with fail
          refine (one _).mono ?_; rintro e w6 ⟨pSO, cSO, rfl, ho, hb⟩
          have SO : Hid (Rd w6 pSO cSO [1]) := Lib.hid ho.rd
          clear ho
          replace XW : Hid (Rd w6 a ca xs) := Lib.hid (XW.out.nx hb)
          replace YW : Hid (Rd w6 b cb ys) := Lib.hid (YW.out.nx hb)
          replace SQ1 : Hid (Rd w6 pSQ1 cSQ1 q1) := Lib.hid (SQ1.out.nx hb)
          replace SR1 : Hid (Rd w6 pSR1 cSR1 r1) := Lib.hid (SR1.out.nx hb)
          replace KW : Hid (Kp w2 w6) := Lib.hid (Kp.nx KW.out hb)
          clear hb
          obtain ⟨r2, hr2⟩ : ∃ z, z = L (r0 + r0 + 1) := ⟨_, rfl⟩
          have lr2 : r2.length ≤ M + 1 := by rw [hr2]; exact (FR1.out 1 (by omega)).len
          have VR2 := Lib.hid (show V r2 = r0 + r0 + 1 by rw [hr2, V_L])
          have HR2 := Lib.hid (show r2 = L (V r1 + V [1]) by rw [hr2, VR1.out, LN.V_one]); clear hr2
          go_wp2_with fail
          refine (HAd.out _ pSR1 pSO cSR1 cSO r1 [1] r2 SR1.out SO.out (by omega) (by simp) HR2.out).mono ?_; rintro e w7 ⟨pSR2, cSR2, rfl, ho, hb⟩
          have SR2 : Hid (Rd w7 pSR2 cSR2 r2) := Lib.hid ho.rd
          clear ho
          clear SR1
          clear SO
          replace XW : Hid (Rd w7 a ca xs) := Lib.hid (XW.out.nx hb)
          replace YW : Hid (Rd w7 b cb ys) := Lib.hid (YW.out.nx hb)
          replace SQ1 : Hid (Rd w7 pSQ1 cSQ1 q1) := Lib.hid (SQ1.out.nx hb)
          replace KW : Hid (Kp w2 w7) := Lib.hid (Kp.nx KW.out hb)
          clear hb
          have HCI := Lib.hid (HCm.out _ pSR2 cSR2 r2 SR2.out YW.out (by omega) (-1) (by have := HB.out; rw [VR2.out, NT.cmpI, if_pos (by omega)]))
          go_wp2_with fail
          refine (HCI.out).mono ?_; rintro e w8 ⟨rfl, hb⟩
          replace XW : Hid (Rd w8 a ca xs) := Lib.hid (XW.out.nx hb)
          replace YW : Hid (Rd w8 b cb ys) := Lib.hid (YW.out.nx hb)
          replace SQ1 : Hid (Rd w8 pSQ1 cSQ1 q1) := Lib.hid (SQ1.out.nx hb)
          replace SR2 : Hid (Rd w8 pSR2 cSR2 r2) := Lib.hid (SR2.out.nx hb)
          replace KW : Hid (Kp w2 w8) := Lib.hid (Kp.nx KW.out hb)
          clear hb
          clear HCI
          have EQF : Hid (q1 = L (X / 2 ^ i / Y)) := Lib.hid (by have h1 := HBD.out.1; rw [if_neg (by have := HB.out; omega)] at h1; rw [Q1E.out, h1]; try rfl)
          have ERF : Hid (r2 = L (X / 2 ^ i % Y)) := Lib.hid (by have h1 := HBD.out.2; rw [if_neg (by have := HB.out; omega)] at h1; rw [HR2.out, VR1.out, LN.V_one, h1]; try rfl)
          go_wp2_with fail
          go_roundw
          case rel => exact ⟨i, pSQ1, pSR2, cSQ1, cSR2, q1, r2, rfl, rfl, by go_num, by omega, EQF, ERF, SQ1, SR2, KW⟩
          case measure => simp [intOf]
      · rcases hb with rfl | rfl
        · have HB := Lib.hid hge; clear hge
          go_wp2_with fail
          refine (CA.out).mono ?_; rintro e w3 ⟨pSQ1, cSQ1, rfl, ho, hb⟩
          have SQ1 : Hid (Rd w3 pSQ1 cSQ1 q1) := Lib.hid ho.rd
          clear ho
          clear SQ
          replace XW : Hid (Rd w3 a ca xs) := Lib.hid (XW.out.nx hb)
          replace YW : Hid (Rd w3 b cb ys) := Lib.hid (YW.out.nx hb)
          replace SR : Hid (Rd w3 pr cr rl) := Lib.hid (SR.out.nx hb)
          replace KW : Hid (Kp w2 w3) := Lib.hid (Kp.nx KW.out hb)
          clear hb
          go_wp2_with fail
          refine (HAd.out _ pr pr cr cr rl rl r1 SR.out SR.out (by omega) (by omega) HR1.out).mono ?_; rintro e w4 ⟨pSR1, cSR1, rfl, ho, hb⟩
          have SR1 : Hid (Rd w4 pSR1 cSR1 r1) := Lib.hid ho.rd
          clear ho
          clear SR
          replace XW : Hid (Rd w4 a ca xs) := Lib.hid (XW.out.nx hb)
          replace YW : Hid (Rd w4 b cb ys) := Lib.hid (YW.out.nx hb)
          replace SQ1 : Hid (Rd w4 pSQ1 cSQ1 q1) := Lib.hid (SQ1.out.nx hb)
          replace KW : Hid (Kp w2 w4) := Lib.hid (Kp.nx KW.out hb)
          clear hb
          have HBI := Lib.hid (HBt.out _ XW.out i (by omega) false (by rw [← HBE.out]; rfl))
          go_wp2_with fail
          refine (HBI.out).mono ?_; rintro e w5 ⟨rfl, hb⟩
          replace XW : Hid (Rd w5 a ca xs) := Lib.hid (XW.out.nx hb)
          replace YW : Hid (Rd w5 b cb ys) := Lib.hid (YW.out.nx hb)
          replace SQ1 : Hid (Rd w5 pSQ1 cSQ1 q1) := Lib.hid (SQ1.out.nx hb)
          replace SR1 : Hid (Rd w5 pSR1 cSR1 r1) := Lib.hid (SR1.out.nx hb)
          replace KW : Hid (Kp w2 w5) := Lib.hid (Kp.nx KW.out hb)
          clear hb
          clear HBI
          obtain ⟨z, hz, hz0⟩ : ∃ z : Int, z = NT.cmpI (V r1) Y ∧ 0 ≤ z := ⟨_, rfl, by have := HB.out; rw [VR1.out]; unfold NT.cmpI; rw [if_neg (by omega)]; split <;> omega⟩
          have HCI := Lib.hid (HCm.out _ pSR1 cSR1 r1 SR1.out YW.out (by omega) z hz); clear hz
          go_wp2_with fail
          refine (HCI.out).mono ?_; rintro e w6 ⟨rfl, hb⟩
          replace XW : Hid (Rd w6 a ca xs) := Lib.hid (XW.out.nx hb)
          replace YW : Hid (Rd w6 b cb ys) := Lib.hid (YW.out.nx hb)
          replace SQ1 : Hid (Rd w6 pSQ1 cSQ1 q1) := Lib.hid (SQ1.out.nx hb)
          replace SR1 : Hid (Rd w6 pSR1 cSR1 r1) := Lib.hid (SR1.out.nx hb)
          replace KW : Hid (Kp w2 w6) := Lib.hid (Kp.nx KW.out hb)
          clear hb
          clear HCI
          obtain ⟨r3, hr3⟩ : ∃ z, z = L (r0 + r0 - Y) := ⟨_, rfl⟩
          have HR3 := Lib.hid (show r3 = L (V r1 - Y) by rw [hr3, VR1.out])
          have ER3 := Lib.hid hr3; clear hr3
          go_wp2_with fail
          refine (HSu.out _ pSR1 cSR1 r1 r3 SR1.out YW.out (by omega) HR3.out (by have := HB.out; rw [VR1.out]; omega)).mono ?_; rintro e w7 ⟨pSR3, cSR3, rfl, ho, hb⟩
          have SR3 : Hid (Rd w7 pSR3 cSR3 r3) := Lib.hid ho.rd
          clear ho
          clear SR1
          replace XW : Hid (Rd w7 a ca xs) := Lib.hid (XW.out.nx hb)
          replace YW : Hid (Rd w7 b cb ys) := Lib.hid (YW.out.nx hb)
          replace SQ1 : Hid (Rd w7 pSQ1 cSQ1 q1) := Lib.hid (SQ1.out.nx hb)
          replace KW : Hid (Kp w2 w7) := Lib.hid (Kp.nx KW.out hb)
          clear hb
          go_wp2_with fail
          refine (one _).mono ?_; rintro e w8 ⟨pSP, cSP, rfl, ho, hb⟩
          have SP : Hid (Rd w8 pSP cSP [1]) := Lib.hid ho.rd
          clear ho
          replace XW : Hid (Rd w8 a ca xs) := Lib.hid (XW.out.nx hb)
          replace YW : Hid (Rd w8 b cb ys) := Lib.hid (YW.out.nx hb)
          replace SQ1 : Hid (Rd w8 pSQ1 cSQ1 q1) := Lib.hid (SQ1.out.nx hb)
          replace SR3 : Hid (Rd w8 pSR3 cSR3 r3) := Lib.hid (SR3.out.nx hb)
          replace KW : Hid (Kp w2 w8) := Lib.hid (Kp.nx KW.out hb)
          clear hb
          obtain ⟨q2, hq2⟩ : ∃ z, z = L (q0 + q0 + 1) := ⟨_, rfl⟩
          have HQ2 := Lib.hid (show q2 = L (V q1 + V [1]) by rw [hq2, VQ1.out, LN.V_one])
          have EQ2 := Lib.hid hq2; clear hq2
          go_wp2_with fail
          refine (HAd.out _ pSQ1 pSP cSQ1 cSP q1 [1] q2 SQ1.out SP.out (by omega) (by simp) HQ2.out).mono ?_; rintro e w9 ⟨pSQ2, cSQ2, rfl, ho, hb⟩
          have SQ2 : Hid (Rd w9 pSQ2 cSQ2 q2) := Lib.hid ho.rd
          clear ho
          clear SQ1
          clear SP
          replace XW : Hid (Rd w9 a ca xs) := Lib.hid (XW.out.nx hb)
          replace YW : Hid (Rd w9 b cb ys) := Lib.hid (YW.out.nx hb)
          replace SR3 : Hid (Rd w9 pSR3 cSR3 r3) := Lib.hid (SR3.out.nx hb)
          replace KW : Hid (Kp w2 w9) := Lib.hid (Kp.nx KW.out hb)
          clear hb
          have EQF : Hid (q2 = L (X / 2 ^ i / Y)) := Lib.hid (by have h1 := HBD.out.1; rw [if_pos (by have := HB.out; omega)] at h1; rw [EQ2.out, h1])
          have ERF : Hid (r3 = L (X / 2 ^ i % Y)) := Lib.hid (by have h1 := HBD.out.2; rw [if_pos (by have := HB.out; omega)] at h1; rw [ER3.out, h1]; try rfl)
          go_wp2_with fail
          go_roundw
          case rel => exact ⟨i, pSQ2, pSR3, cSQ2, cSR3, q2, r3, rfl, rfl, by go_num, by omega, EQF, ERF, SQ2, SR3, KW⟩
          case measure => simp [intOf]
        · have HB := Lib.hid hge; clear hge
          go_wp2_with fail
          refine (CA.out).mono ?_; rintro e w3 ⟨pSQ1, cSQ1, rfl, ho, hb⟩
          have SQ1 : Hid (Rd w3 pSQ1 cSQ1 q1) := Lib.hid ho.rd
          clear ho
          clear SQ
          replace XW : Hid (Rd w3 a ca xs) := Lib.hid (XW.out.nx hb)
          replace YW : Hid (Rd w3 b cb ys) := Lib.hid (YW.out.nx hb)
          replace SR : Hid (Rd w3 pr cr rl) := Lib.hid (SR.out.nx hb)
          replace KW : Hid (Kp w2 w3) := Lib.hid (Kp.nx KW.out hb)
          clear hb
          go_wp2_with fail
          refine (HAd.out _ pr pr cr cr rl rl r1 SR.out SR.out (by omega) (by omega) HR1.out).mono ?_; rintro e w4 ⟨pSR1, cSR1, rfl, ho, hb⟩
          have SR1 : Hid (Rd w4 pSR1 cSR1 r1) := Lib.hid ho.rd
          clear ho
          clear SR
          replace XW : Hid (Rd w4 a ca xs) := Lib.hid (XW.out.nx hb)
          replace YW : Hid (Rd w4 b cb ys) := Lib.hid (YW.out.nx hb)
          replace SQ1 : Hid (Rd w4 pSQ1 cSQ1 q1) := Lib.hid (SQ1.out.nx hb)
          replace KW : Hid (Kp w2 w4) := Lib.hid (Kp.nx KW.out hb)
          clear hb
          have HBI := Lib.hid (HBt.out _ XW.out i (by omega) true (by rw [← HBE.out]; rfl))
          go_wp2_with fail
          refine (HBI.out).mono ?_; rintro e w5 ⟨rfl, hb⟩
          replace XW : Hid (Rd w5 a ca xs) := Lib.hid (XW.out.nx hb)
          replace YW : Hid (Rd w5 b cb ys) := Lib.hid (YW.out.nx hb)
          replace SQ1 : Hid (Rd w5 pSQ1 cSQ1 q1) := Lib.hid (SQ1.out.nx hb)
          replace SR1 : Hid (Rd w5 pSR1 cSR1 r1) := Lib.hid (SR1.out.nx hb)
          replace KW : Hid (Kp w2 w5) := Lib.hid (Kp.nx KW.out hb)
          clear hb
          clear HBI
          go_wp2_with fail
          refine (one _).mono ?_; rintro e w6 ⟨pSO, cSO, rfl, ho, hb⟩
          have SO : Hid (Rd w6 pSO cSO [1]) := Lib.hid ho.rd
          clear ho
          replace XW : Hid (Rd w6 a ca xs) := Lib.hid (XW.out.nx hb)
          replace YW : Hid (Rd w6 b cb ys) := Lib.hid (YW.out.nx hb)
          replace SQ1 : Hid (Rd w6 pSQ1 cSQ1 q1) := Lib.hid (SQ1.out.nx hb)
          replace SR1 : Hid (Rd w6 pSR1 cSR1 r1) := Lib.hid (SR1.out.nx hb)
          replace KW : Hid (Kp w2 w6) := Lib.hid (Kp.nx KW.out hb)
          clear hb
          obtain ⟨r2, hr2⟩ : ∃ z, z = L (r0 + r0 + 1) := ⟨_, rfl⟩
          have lr2 : r2.length ≤ M + 1 := by rw [hr2]; exact (FR1.out 1 (by omega)).len
          have VR2 := Lib.hid (show V r2 = r0 + r0 + 1 by rw [hr2, V_L])
          have HR2 := Lib.hid (show r2 = L (V r1 + V [1]) by rw [hr2, VR1.out, LN.V_one]); clear hr2
          go_wp2_with fail
          refine (HAd.out _ pSR1 pSO cSR1 cSO r1 [1] r2 SR1.out SO.out (by omega) (by simp) HR2.out).mono ?_; rintro e w7 ⟨pSR2, cSR2, rfl, ho, hb⟩
          have SR2 : Hid (Rd w7 pSR2 cSR2 r2) := Lib.hid ho.rd
          clear ho
          clear SR1
          clear SO
          replace XW : Hid (Rd w7 a ca xs) := Lib.hid (XW.out.nx hb)
          replace YW : Hid (Rd w7 b cb ys) := Lib.hid (YW.out.nx hb)
          replace SQ1 : Hid (Rd w7 pSQ1 cSQ1 q1) := Lib.hid (SQ1.out.nx hb)
          replace KW : Hid (Kp w2 w7) := Lib.hid (Kp.nx KW.out hb)
          clear hb
          obtain ⟨z, hz, hz0⟩ : ∃ z : Int, z = NT.cmpI (V r2) Y ∧ 0 ≤ z := ⟨_, rfl, by have := HB.out; rw [VR2.out]; unfold NT.cmpI; rw [if_neg (by omega)]; split <;> omega⟩
          have HCI := Lib.hid (HCm.out _ pSR2 cSR2 r2 SR2.out YW.out (by omega) z hz); clear hz
          go_wp2_with fail
          refine (HCI.out).mono ?_; rintro e w8 ⟨rfl, hb⟩
          replace XW : Hid (Rd w8 a ca xs) := Lib.hid (XW.out.nx hb)
          replace YW : Hid (Rd w8 b cb ys) := Lib.hid (YW.out.nx hb)
          replace SQ1 : Hid (Rd w8 pSQ1 cSQ1 q1) := Lib.hid (SQ1.out.nx hb)
          replace SR2 : Hid (Rd w8 pSR2 cSR2 r2) := Lib.hid (SR2.out.nx hb)
          replace KW : Hid (Kp w2 w8) := Lib.hid (Kp.nx KW.out hb)
          clear hb
          clear HCI
          obtain ⟨r3, hr3⟩ : ∃ z, z = L (r0 + r0 + 1 - Y) := ⟨_, rfl⟩
          have HR3 := Lib.hid (show r3 = L (V r2 - Y) by rw [hr3, VR2.out])
          have ER3 := Lib.hid hr3; clear hr3
          go_wp2_with fail
          refine (HSu.out _ pSR2 cSR2 r2 r3 SR2.out YW.out (by omega) HR3.out (by have := HB.out; rw [VR2.out]; omega)).mono ?_; rintro e w9 ⟨pSR3, cSR3, rfl, ho, hb⟩
          have SR3 : Hid (Rd w9 pSR3 cSR3 r3) := Lib.hid ho.rd
          clear ho
          clear SR2
          replace XW : Hid (Rd w9 a ca xs) := Lib.hid (XW.out.nx hb)
          replace YW : Hid (Rd w9 b cb ys) := Lib.hid (YW.out.nx hb)
          replace SQ1 : Hid (Rd w9 pSQ1 cSQ1 q1) := Lib.hid (SQ1.out.nx hb)
          replace KW : Hid (Kp w2 w9) := Lib.hid (Kp.nx KW.out hb)
          clear hb
          go_wp2_with fail
          refine (one _).mono ?_; rintro e w10 ⟨pSP, cSP, rfl, ho, hb⟩
          have SP : Hid (Rd w10 pSP cSP [1]) := Lib.hid ho.rd
          clear ho
          replace XW : Hid (Rd w10 a ca xs) := Lib.hid (XW.out.nx hb)
          replace YW : Hid (Rd w10 b cb ys) := Lib.hid (YW.out.nx hb)
          replace SQ1 : Hid (Rd w10 pSQ1 cSQ1 q1) := Lib.hid (SQ1.out.nx hb)
          replace SR3 : Hid (Rd w10 pSR3 cSR3 r3) := Lib.hid (SR3.out.nx hb)
          replace KW : Hid (Kp w2 w10) := Lib.hid (Kp.nx KW.out hb)
          clear hb
          obtain ⟨q2, hq2⟩ : ∃ z, z = L (q0 + q0 + 1) := ⟨_, rfl⟩
          have HQ2 := Lib.hid (show q2 = L (V q1 + V [1]) by rw [hq2, VQ1.out, LN.V_one])
          have EQ2 := Lib.hid hq2; clear hq2
          go_wp2_with fail
          refine (HAd.out _ pSQ1 pSP cSQ1 cSP q1 [1] q2 SQ1.out SP.out (by omega) (by simp) HQ2.out).mono ?_; rintro e w11 ⟨pSQ2, cSQ2, rfl, ho, hb⟩
          have SQ2 : Hid (Rd w11 pSQ2 cSQ2 q2) := Lib.hid ho.rd
          clear ho
          clear SQ1
          clear SP
          replace XW : Hid (Rd w11 a ca xs) := Lib.hid (XW.out.nx hb)
          replace YW : Hid (Rd w11 b cb ys) := Lib.hid (YW.out.nx hb)
          replace SR3 : Hid (Rd w11 pSR3 cSR3 r3) := Lib.hid (SR3.out.nx hb)
          replace KW : Hid (Kp w2 w11) := Lib.hid (Kp.nx KW.out hb)
          clear hb
          have EQF : Hid (q2 = L (X / 2 ^ i / Y)) := Lib.hid (by have h1 := HBD.out.1; rw [if_pos (by have := HB.out; omega)] at h1; rw [EQ2.out, h1])
          have ERF : Hid (r3 = L (X / 2 ^ i % Y)) := Lib.hid (by have h1 := HBD.out.2; rw [if_pos (by have := HB.out; omega)] at h1; rw [ER3.out, h1]; try rfl)
          go_wp2_with fail
          go_roundw
          case rel => exact ⟨i, pSQ2, pSR3, cSQ2, cSR3, q2, r3, rfl, rfl, by go_num, by omega, EQF, ERF, SQ2, SR3, KW⟩
          case measure => simp [intOf]
end Go.Proofs.QR
