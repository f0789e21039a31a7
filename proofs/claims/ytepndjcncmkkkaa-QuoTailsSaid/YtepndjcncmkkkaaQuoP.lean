/- Powers: quo.Pow, and the document's Pow. -/
import Derived.Test.YtepndjcncmkkkaaQuoF
namespace Go.Proofs.QR
open Go.RowKit
open Go.Proofs
open Go.Proofs.NP
open Go.Proofs.SL
open Go.Proofs.NR
set_option linter.unusedVariables false
set_option linter.unusedSimpArgs false
variable {w : World} {a b : Option Addr} {ca cb l k : Nat} {xs ys zs : List Nat}

/-- a power that has not too many bits -/
theorem fits_pow (x n M : Nat) (hM : 1048576 ≤ 64 * M) (h : bitLen x * n ≤ 1048576) : Fits (x ^ n) M := by
  have hx := (bitLen_le_iff x (bitLen x)).1 (Nat.le_refl _)
  unfold Fits
  by_cases hn : n = 0
  · subst hn; exact Nat.one_lt_pow (by omega) (by decide)
  · have h1 : x ^ n < (2 ^ bitLen x) ^ n := Nat.pow_lt_pow_left hx hn
    rw [← Nat.pow_mul] at h1
    refine Nat.lt_of_lt_of_le h1 ?_
    rw [show (18446744073709551616 : Nat) = 2 ^ 64 by decide, ← Nat.pow_mul]
    exact Nat.pow_le_pow_right (by decide) (by omega)

theorem le_quot (s n : Nat) (hs : 0 < s) (h : s * n ≤ 1048576) : (n : Int) ≤ 1048576 / (s : Int) := by
  rw [Int.le_ediv_iff_mul_le (by omega), Int.mul_comm]
  have h2 : ((s * n : Nat) : Int) ≤ 1048576 := by omega
  rw [Int.natCast_mul] at h2; exact h2
theorem gt_quot (s : Nat) (n : Int) (hs : 0 < s) (h : 1048576 < (s : Int) * n) : 1048576 / (s : Int) < n := by
  rw [Int.ediv_lt_iff_lt_mul (by omega), Int.mul_comm]; exact h

theorem L1 : [1] = L 1 := L_of (by decide) (by decide) (by decide +kernel)
theorem pow_odd (o t m e : Nat) (hm : m % 2 = 1) (h : o * t ^ m = e) : (o * t) * (t * t) ^ (m / 2) = e := by
  rw [← h, Nat.mul_assoc]
  congr 1
  rw [← Nat.pow_two, ← Nat.pow_mul, Nat.mul_comm t, ← Nat.pow_succ]
  congr 1; omega
theorem pow_even (o t m e : Nat) (hm : m % 2 = 0) (h : o * t ^ m = e) : o * (t * t) ^ (m / 2) = e := by
  rw [← h, ← Nat.pow_two, ← Nat.pow_mul]
  congr 2; omega
theorem pow_pos' (x n : Nat) (hx : n ≠ 0 → x ≠ 0) : 0 < x ^ n := by
  by_cases h : n = 0
  · subst h; rw [Nat.pow_zero]; decide
  · exact Nat.pow_pos (Nat.pos_of_ne_zero (hx h))
/-- what is in hand stays small -/
theorem pow_le1 (o t m e : Nat) (h : o * t ^ m = e) (he : 0 < e) (hm : 0 < m) : o * t ≤ e := by
  have ht : 0 < t ^ (m - 1) := by
    rcases Nat.eq_zero_or_pos (t ^ (m - 1)) with h1 | h1
    · have : t ^ m = t ^ (m - 1) * t := by rw [← Nat.pow_succ]; congr 1; omega
      rw [this, h1] at h; simp at h; omega
    · exact h1
  have : t ^ m = t * t ^ (m - 1) := by rw [← Nat.pow_succ']; congr 1; omega
  rw [← h, this, ← Nat.mul_assoc]
  exact Nat.le_mul_of_pos_right _ ht
theorem pow_le2 (o t m e : Nat) (h : o * t ^ m = e) (he : 0 < e) (hm : 2 ≤ m) : t * t ≤ e := by
  have ho : 0 < o := by
    rcases Nat.eq_zero_or_pos o with h1 | h1
    · rw [h1] at h; simp at h; omega
    · exact h1
  have ht : 0 < t ^ (m - 2) := by
    rcases Nat.eq_zero_or_pos (t ^ (m - 2)) with h1 | h1
    · have : t ^ m = t ^ (m - 2) * t ^ 2 := by rw [← Nat.pow_add]; congr 1; omega
      rw [this, h1] at h; simp at h; omega
    · exact h1
  have : t ^ m = t * t * t ^ (m - 2) := by rw [← Nat.pow_two, ← Nat.pow_add]; congr 1; omega
  rw [← h, this]
  calc t * t ≤ t * t * t ^ (m - 2) := Nat.le_mul_of_pos_right _ ht
    _ ≤ o * (t * t * t ^ (m - 2)) := Nat.le_mul_of_pos_left _ ho

set_option maxHeartbeats 4000000 in
theorem pow1_ok (hx : Rd w a ca xs) (lx : xs.length = l) (h : l ≤ 10000) (n s : Nat) (hs : s = bitLen (V xs)) (hn : s * n ≤ 1048576) (h0 : s = 0 → n = 0) (hz : zs = L (V xs ^ n)) :
    Calls Try.prog 21 #[.slice a l ca, .int .i64 (n : Int)] w (GivesE 36 w zs) := by
  obtain ⟨X, hX⟩ : ∃ X, X = V xs := ⟨_, rfl⟩
  obtain ⟨M, hM1, hM2⟩ : ∃ M, 16384 ≤ M ∧ M ≤ 16384 := ⟨16384, Nat.le_refl _, Nat.le_refl _⟩
  obtain ⟨es, hes⟩ : ∃ es, es = L X := ⟨_, rfl⟩
  have lea : es.length ≤ 10000 := by have := L_V_len hx.ws; rw [hes, hX]; omega
  have HL := Lib.hid (NR.len hx lx (by omega) s hs)
  have HT := Lib.hid (fun (w1 : World) (hx : Rd w1 a ca xs) => NR.trim (zs := es) hx lx (by omega) (by rw [hes, hX]))
  rw [← hX] at hs hz
  have FP := Lib.hid (show Fits (X ^ n) M from fits_pow X n M (by omega) (by rw [← hs]; exact hn))
  have nb : n ≤ 1048576 := by
    rcases Nat.eq_zero_or_pos s with h1 | h1
    · have := h0 h1; omega
    · exact Nat.le_trans (Nat.le_mul_of_pos_left n h1) hn
  have hcase : (s = 0 ∧ n ≤ 0) ∨ (0 < s ∧ (n : Int) ≤ 1048576 / (s : Int)) := by
    rcases Nat.eq_zero_or_pos s with h1 | h1
    · exact .inl ⟨h1, by have := h0 h1; omega⟩
    · exact .inr ⟨h1, le_quot s n h1 hn⟩
  have hX0 : n ≠ 0 → X ≠ 0 := by
    intro h1 h2; rw [h2] at hs; exact h1 (h0 hs)
  have HX0 := Lib.hid hX0
  have HE := Lib.hid hes
  have HZ := Lib.hid hz
  have HX := Lib.hid hx
  have W1 : Ws [1] := ws_of _ (by decide +kernel)
  have HO := Lib.hid (Own.lit (e := 36) (B := w.heap.size) (w := w) [1] W1 #[.int .u64 1] rfl (Nat.le_refl _) (by decide))
  have HK := Lib.hid ((Kp.refl w).al (.cells #[.int .u64 1] 36))
  have HXA := Lib.hid (hx.al (.cells #[.int .u64 1] 36))
  clear hx lx hX hes hz hs hn h0 hX0 W1
  rcases hcase with ⟨rfl, hn0⟩ | ⟨hs1, hs2⟩
  · go_enter Try.func21, Try.ntmps21
    go_wp2_with fail
    refine HL.out.mono ?_; rintro e w' ⟨rfl, rfl⟩
    go_wp2_with fail
    refine (HT.out _ HXA.out).mono ?_; rintro e w1 ⟨p1, c1, rfl, ho1, hb1⟩
    have SO := Lib.hid (HO.out.nx hb1)
    have SS := Lib.hid ho1.rd
    have K1 := Lib.hid (Kp.nx HK.out hb1)
    clear ho1 hb1 HT HL HO HK HXA
    go_wp2_with fail
    go_loopw [1, 7, 8] (fun s1 s7 s8 wr => ∃ (m o t c d : Nat) (p q : Option Addr) (us vs : List Nat), s1 = .int .i64 m ∧ s7 = .slice p us.length c ∧ s8 = .slice q vs.length d ∧ m ≤ n ∧ us.length ≤ M ∧ vs.length ≤ M ∧ Hid (us = L o) ∧ Hid (vs = L t) ∧ Hid (o * t ^ m = X ^ n) ∧ Hid (Own 36 w.heap.size wr p c us) ∧ Hid (Rd wr q d vs) ∧ Hid (Kp w wr)) (fun s1 _ _ _ => (intOf s1).toNat)
    case atStart => exact ⟨n, 1, X, 1, c1, _, p1, [1], es, rfl, rfl, rfl, by omega, by simp; omega, by omega, L1, HE.out, by rw [Hid, Nat.one_mul], SO.out, SS.out, K1.out⟩
    case round =>
      obtain ⟨m, o, t, c, d, p, q, us, vs, rfl, rfl, rfl, hm, lu, lv, EU, EV, EP, SU, SV, KW⟩ := hrel
      have EPOS := Lib.hid (pow_pos' X n HX0.out)
      obtain ⟨wo, rfl⟩ : ∃ wo : World, wo = wr := ⟨_, rfl⟩
      have hm0 : m = 0 := by omega
      subst hm0
      have e1 : us = zs := by rw [EU.out, HZ.out, ← EP.out, Nat.pow_zero, Nat.mul_one]
      have hf := Lib.hid (show GivesE 36 w zs (.returned (.tuple #[.slice p zs.length c, .int .i64 0])) wo from ⟨p, c, rfl, by have := SU.out; rw [e1] at this; exact this, KW.out⟩)
      rw [e1]
      clear e1 EU EV EP SU SV KW HZ HX0 EPOS
      go_wp2_with fail
      go_ret2
      exact hf.out
  · go_enter Try.func21, Try.ntmps21
    go_wp2_with fail
    refine HL.out.mono ?_; rintro e w' ⟨rfl, rfl⟩
    go_wp2_with fail
    refine (HT.out _ HXA.out).mono ?_; rintro e w1 ⟨p1, c1, rfl, ho1, hb1⟩
    have SO := Lib.hid (HO.out.nx hb1)
    have SS := Lib.hid ho1.rd
    have K1 := Lib.hid (Kp.nx HK.out hb1)
    clear ho1 hb1 HT HL HO HK HXA
    go_wp2_with fail
    go_loopw [1, 7, 8] (fun s1 s7 s8 wr => ∃ (m o t c d : Nat) (p q : Option Addr) (us vs : List Nat), s1 = .int .i64 m ∧ s7 = .slice p us.length c ∧ s8 = .slice q vs.length d ∧ m ≤ n ∧ us.length ≤ M ∧ vs.length ≤ M ∧ Hid (us = L o) ∧ Hid (vs = L t) ∧ Hid (o * t ^ m = X ^ n) ∧ Hid (Own 36 w.heap.size wr p c us) ∧ Hid (Rd wr q d vs) ∧ Hid (Kp w wr)) (fun s1 _ _ _ => (intOf s1).toNat)
    case atStart => exact ⟨n, 1, X, 1, c1, _, p1, [1], es, rfl, rfl, rfl, by omega, by simp; omega, by omega, L1, HE.out, by rw [Hid, Nat.one_mul], SO.out, SS.out, K1.out⟩
    case round =>
      obtain ⟨m, o, t, c, d, p, q, us, vs, rfl, rfl, rfl, hm, lu, lv, EU, EV, EP, SU, SV, KW⟩ := hrel
      have EPOS := Lib.hid (pow_pos' X n HX0.out)
      obtain ⟨wo, rfl⟩ : ∃ wo : World, wo = wr := ⟨_, rfl⟩
      rcases (show m = 0 ∨ m = 1 ∨ (2 ≤ m ∧ m % 2 = 1) ∨ (2 ≤ m ∧ m % 2 = 0) by omega) with hm0 | hm0 | ⟨hm0, hm1⟩ | ⟨hm0, hm1⟩
      · subst hm0
        have e1 : us = zs := by rw [EU.out, HZ.out, ← EP.out, Nat.pow_zero, Nat.mul_one]
        have hf := Lib.hid (show GivesE 36 w zs (.returned (.tuple #[.slice p zs.length c, .int .i64 0])) wo from ⟨p, c, rfl, by have := SU.out; rw [e1] at this; exact this, KW.out⟩)
        rw [e1]
        clear e1 EU EV EP SU SV KW HZ HX0 EPOS
        go_wp2_with fail
        go_ret2
        exact hf.out
      · subst hm0
        obtain ⟨r1, hr1⟩ : ∃ z, z = L (o * t) := ⟨_, rfl⟩
        have lr1 : r1.length ≤ M := by rw [hr1]; exact Fits.len (FP.out.mono (pow_le1 o t 1 _ EP.out EPOS.out (by decide)))
        have C1 := Lib.hid (NR.mul (zs := r1) SU.out.rd SV.out rfl rfl (by omega) (by omega) (by rw [hr1, EU.out, EV.out, V_L, V_L]))
        have E1 := Lib.hid hr1
        have EP2 := Lib.hid (show (o * t) * t ^ 0 = X ^ n by rw [Nat.pow_zero, Nat.mul_one, ← EP.out, Nat.pow_one])
        clear hr1
        go_wp2_with fail
        refine C1.out.mono ?_; rintro e w3 ⟨p3, c3, rfl, ho3, hb3⟩
        have SU3 := Lib.hid (ho3.mono KW.out.size)
        have SV3 := Lib.hid (SV.out.nx hb3)
        have KW3 := Lib.hid (Kp.nx KW.out hb3)
        clear ho3 hb3 C1 SU SV KW
        go_wp2_with fail
        go_roundw
        case rel => exact ⟨0, o * t, t, c3, d, p3, q, r1, vs, by go_num, rfl, rfl, by omega, lr1, lv, E1, EV, EP2, SU3, SV3, KW3⟩
        case measure => simp [intOf]
      · obtain ⟨r1, hr1⟩ : ∃ z, z = L (o * t) := ⟨_, rfl⟩
        have lr1 : r1.length ≤ M := by rw [hr1]; exact Fits.len (FP.out.mono (pow_le1 o t m _ EP.out EPOS.out (by omega)))
        obtain ⟨r2, hr2⟩ : ∃ z, z = L (t * t) := ⟨_, rfl⟩
        have lr2 : r2.length ≤ M := by rw [hr2]; exact Fits.len (FP.out.mono (pow_le2 o t m _ EP.out EPOS.out hm0))
        have C1 := Lib.hid (NR.mul (zs := r1) SU.out.rd SV.out rfl rfl (by omega) (by omega) (by rw [hr1, EU.out, EV.out, V_L, V_L]))
        have C2 := Lib.hid (fun (w1 : World) (h1 : Rd w1 q d vs) => NR.mul (zs := r2) h1 h1 rfl rfl (by omega) (by omega) (by rw [hr2, EV.out, V_L]))
        have E1 := Lib.hid hr1
        have E2 := Lib.hid hr2
        have EP2 := Lib.hid (pow_odd o t m _ hm1 EP.out)
        clear hr1 hr2
        go_wp2_with fail
        refine C1.out.mono ?_; rintro e w3 ⟨p3, c3, rfl, ho3, hb3⟩
        have SU3 := Lib.hid (ho3.mono KW.out.size)
        have SV3 := Lib.hid (SV.out.nx hb3)
        have KW3 := Lib.hid (Kp.nx KW.out hb3)
        clear ho3 hb3 C1 SU SV KW
        go_wp2_with fail
        refine (C2.out _ SV3.out).mono ?_; rintro e w4 ⟨p4, c4, rfl, ho4, hb4⟩
        have SU4 := Lib.hid (SU3.out.nx hb4)
        have SV4 := Lib.hid ho4.rd
        have KW4 := Lib.hid (Kp.nx KW3.out hb4)
        clear ho4 hb4 C2 SU3 SV3 KW3
        go_wp2_with fail
        go_roundw
        case rel => exact ⟨m / 2, o * t, t * t, c3, c4, p3, p4, r1, r2, by go_num, rfl, rfl, by omega, lr1, lr2, E1, E2, EP2, SU4, SV4, KW4⟩
        case measure => simp [intOf]; omega
      · obtain ⟨r2, hr2⟩ : ∃ z, z = L (t * t) := ⟨_, rfl⟩
        have lr2 : r2.length ≤ M := by rw [hr2]; exact Fits.len (FP.out.mono (pow_le2 o t m _ EP.out EPOS.out hm0))
        have C2 := Lib.hid (NR.mul (zs := r2) SV.out SV.out rfl rfl (by omega) (by omega) (by rw [hr2, EV.out, V_L]))
        have E2 := Lib.hid hr2
        have EP2 := Lib.hid (pow_even o t m _ hm1 EP.out)
        clear hr2
        go_wp2_with fail
        refine C2.out.mono ?_; rintro e w4 ⟨p4, c4, rfl, ho4, hb4⟩
        have SU4 := Lib.hid (SU.out.nx hb4)
        have SV4 := Lib.hid ho4.rd
        have KW4 := Lib.hid (Kp.nx KW.out hb4)
        clear ho4 hb4 C2 SU SV KW
        go_wp2_with fail
        go_roundw
        case rel => exact ⟨m / 2, o, t * t, c, c4, p, p4, us, r2, by go_num, rfl, rfl, by omega, lu, lr2, EU, E2, EP2, SU4, SV4, KW4⟩
        case measure => simp [intOf]; omega
end Go.Proofs.QR
