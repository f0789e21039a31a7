/- Powers once more: any number; the document's powers. -/
import Derived.Test.YtepndjcncmkkkaaQuoEnd
namespace Go.Proofs.QL
open Go.RowKit
open Go.Proofs
open Go.Proofs.NP
open Go.Proofs.SL
open Go.Proofs.NR
open Go.Proofs.QR
set_option linter.unusedVariables false
set_option linter.unusedSimpArgs false
variable {w : World} {a b : Option Addr} {ca cb l k : Nat} {xs ys zs : List Nat}

/-- a slice and an error -/
def GivesC (w : World) (xs : List Nat) (c : Int) (en : Ending) (w' : World) : Prop :=
  ∃ a cap, en = .returned (.tuple #[.slice a xs.length cap, .int .i64 c]) ∧ Own 36 w.heap.size w' a cap xs ∧ Below w.heap.size w w'
theorem nilC (w w' : World) (c : Int) (h : Kp w w') : GivesC w [] c (.returned (.tuple #[.slice none 0 0, .int .i64 c])) w' :=
  ⟨none, 0, rfl, QT.ownNil _ _, h⟩
/-- what a power is told as -/
def pwL (x : Nat) (n : Int) : List Nat := if n < 0 ∨ 1048576 < (bitLen x : Int) * n then [] else L (x ^ n.toNat)
def pwE (x : Nat) (n : Int) : Int := if n < 0 then 1 else if 1048576 < (bitLen x : Int) * n then 5 else 0

theorem pw_neg (hx : Rd w a ca xs) (lx : xs.length = l) (h : l ≤ 10000) (n : Int) (hn : n < 0) : Calls Try.prog 21 #[.slice a l ca, .int .i64 n] w (GivesC w [] 1) := by
  obtain ⟨s, hs⟩ : ∃ s, s = bitLen (V xs) := ⟨_, rfl⟩
  have HL := Lib.hid (NR.len hx lx (by omega) s hs)
  have hf := Lib.hid (nilC w w 1 (Kp.refl _))
  clear hx lx hs
  go_enter Try.func21, Try.ntmps21
  go_wp2_with fail
  refine HL.out.mono ?_; rintro e w' ⟨rfl, rfl⟩
  go_wp2_with fail
  go_ret2
  exact hf.out
theorem pw_long (hx : Rd w a ca xs) (lx : xs.length = l) (h : l ≤ 10000) (n : Int) (hn : 0 ≤ n) (h5 : 1048576 < (bitLen (V xs) : Int) * n) : Calls Try.prog 21 #[.slice a l ca, .int .i64 n] w (GivesC w [] 5) := by
  obtain ⟨s, hs⟩ : ∃ s, s = bitLen (V xs) := ⟨_, rfl⟩
  have HL := Lib.hid (NR.len hx lx (by omega) s hs)
  have hf := Lib.hid (nilC w w 5 (Kp.refl _))
  rw [← hs] at h5
  have s0 : 0 < s := by
    rcases Nat.eq_zero_or_pos s with h0 | h0
    · subst h0; simp at h5
    · exact h0
  have hq := gt_quot s n s0 h5
  clear hx lx hs h5
  go_enter Try.func21, Try.ntmps21
  go_wp2_with fail
  refine HL.out.mono ?_; rintro e w' ⟨rfl, rfl⟩
  go_wp2_with fail
  go_ret2
  exact hf.out
theorem ge_cast (w : World) (c : Int) {en : Ending} {w' : World} (h : GivesE 36 w zs en w') : GivesC w zs 0 en w' := h
theorem pow1z (hx : Rd w a ca xs) (lx : xs.length = l) (h : l ≤ 10000) (n : Nat) (h0 : V xs = 0) (hn : 0 < n) (hn1 : n ≤ 9223372036854775807) :
    Calls Try.prog 21 #[.slice a l ca, .int .i64 (n : Int)] w (GivesE 36 w []) := by
  have HL := Lib.hid (NR.len hx lx (by omega) 0 (by rw [h0]; rfl))
  have hf := Lib.hid (show GivesE 36 w [] (.returned (.tuple #[.slice none 0 0, .int .i64 0])) w from ⟨none, 0, rfl, QT.ownNil _ _, Kp.refl _⟩)
  clear hx lx h0
  go_enter Try.func21, Try.ntmps21
  go_wp2_with fail
  refine HL.out.mono ?_; rintro e w' ⟨rfl, rfl⟩
  go_wp2_with fail
  go_ret2
  exact hf.out
theorem powA (hx : Rd w a ca xs) (lx : xs.length = l) (h : l ≤ 10000) (n c : Int) (hn1 : n ≤ 9223372036854775807) (hz : zs = pwL (V xs) n) (hc : c = pwE (V xs) n) :
    Calls Try.prog 21 #[.slice a l ca, .int .i64 n] w (GivesC w zs c) := by
  by_cases h0 : n < 0
  · obtain rfl : zs = [] := by rw [hz, pwL, if_pos (.inl h0)]
    obtain rfl : c = 1 := by rw [hc, pwE, if_pos h0]
    exact pw_neg hx lx h n h0
  · by_cases h5 : 1048576 < (bitLen (V xs) : Int) * n
    · obtain rfl : zs = [] := by rw [hz, pwL, if_pos (.inr h5)]
      obtain rfl : c = 5 := by rw [hc, pwE, if_neg h0, if_pos h5]
      exact pw_long hx lx h n (by omega) h5
    · rw [pwL, if_neg (by intro h'; rcases h' with h' | h'; exact h0 h'; exact h5 h')] at hz
      obtain rfl : c = 0 := by rw [hc, pwE, if_neg h0, if_neg h5]
      obtain ⟨m, rfl⟩ : ∃ m : Nat, n = m := ⟨n.toNat, by omega⟩
      rw [Int.toNat_natCast] at hz
      by_cases hv : V xs = 0 ∧ 0 < m
      · obtain rfl : zs = [] := by rw [hz, hv.1, Nat.zero_pow hv.2]; rfl
        exact pow1z hx lx h m hv.1 hv.2 (by omega)
      · have hb : bitLen (V xs) * m ≤ 1048576 := by
          have : ((bitLen (V xs) * m : Nat) : Int) ≤ 1048576 := by rw [Int.natCast_mul]; omega
          omega
        have nb : m ≤ 1048576 := by
          by_cases hv0 : V xs = 0
          · have : m = 0 := by
              rcases Nat.eq_zero_or_pos m with h1 | h1
              · exact h1
              · exact absurd ⟨hv0, h1⟩ hv
            omega
          · exact Nat.le_trans (Nat.le_mul_of_pos_left m (bitLen_pos _ hv0)) hb
        exact pow1 hx lx h m nb hb hz

theorem pwL_len (x : Nat) (n : Int) : (pwL x n).length ≤ 16384 := by
  unfold pwL
  split
  · simp
  · rename_i h
    have h1 : ¬ n < 0 := fun h' => h (.inl h')
    have h2 : ¬ 1048576 < (bitLen x : Int) * n := fun h' => h (.inr h')
    obtain ⟨m, rfl⟩ : ∃ m : Nat, n = m := ⟨n.toNat, by omega⟩
    have hb : bitLen x * m ≤ 1048576 := by
      have : ((bitLen x * m : Nat) : Int) ≤ 1048576 := by rw [Int.natCast_mul]; omega
      omega
    rw [Int.toNat_natCast]
    exact Fits.len (fits_pow x m 16384 (by decide) hb)
/-- the document's -/
theorem pz_neg (n : Int) (hn : n < 0) : Calls Try.prog 20 #[.slice a l ca, .int .i64 n] w (GivesC w [] 1) := by
  have hf := Lib.hid (nilC w w 1 (Kp.refl _))
  go_enter Try.func20, Try.ntmps20
  go_wp2_with fail
  go_ret2
  exact hf.out
theorem pz_long (hx : Rd w a ca xs) (lx : xs.length = l) (h : l ≤ 10000) (n : Int) (hn : 0 ≤ n) (h5 : 1048576 < (bitLen (V xs) : Int) * n) : Calls Try.prog 20 #[.slice a l ca, .int .i64 n] w (GivesC w [] 5) := by
  obtain ⟨s, hs⟩ : ∃ s, s = bitLen (V xs) := ⟨_, rfl⟩
  have HL := Lib.hid (RN.len hx lx (by omega) s hs)
  rw [← hs] at h5
  have s0 : 0 < s := by
    rcases Nat.eq_zero_or_pos s with h0 | h0
    · subst h0; simp at h5
    · exact h0
  have hq := gt_quot s n s0 h5
  clear hx lx hs h5
  go_enter Try.func20, Try.ntmps20
  go_wp2_with fail
  refine HL.out.mono ?_; rintro e w1 ⟨rfl, hb⟩
  have hf := Lib.hid (nilC w w1 5 hb)
  clear hb
  go_wp2_with fail
  go_ret2
  exact hf.out
theorem pz_zero (hx : Rd w a ca xs) (lx : xs.length = l) (h : l ≤ 10000) (n : Int) (hn : 0 < n) (h0 : V xs = 0) : Calls Try.prog 20 #[.slice a l ca, .int .i64 n] w (GivesC w [] 0) := by
  have HL := Lib.hid (RN.len hx lx (by omega) 0 (by rw [h0]; rfl))
  clear hx lx h0
  go_enter Try.func20, Try.ntmps20
  go_wp2_with fail
  refine HL.out.mono ?_; rintro e w1 ⟨rfl, hb⟩
  have hf := Lib.hid (nilC w w1 0 hb)
  clear hb
  go_wp2_with fail
  go_ret2
  exact hf.out
theorem pz_one (hx : Rd w a ca xs) (lx : xs.length = l) (h : l ≤ 10000) (n : Int) (hn : 0 ≤ n) (hn1 : n ≤ 1048576) (h0 : V xs = 1) : Calls Try.prog 20 #[.slice a l ca, .int .i64 n] w (GivesC w [1] 0) := by
  have HL := Lib.hid (RN.len hx lx (by omega) 1 (by rw [h0]; rfl))
  clear hx lx h0
  go_enter Try.func20, Try.ntmps20
  go_wp2_with fail
  refine HL.out.mono ?_; rintro e w1 ⟨rfl, hb⟩
  have HK := Lib.hid hb
  clear hb
  go_wp2_with fail
  refine (one _).mono ?_; rintro e w2 ⟨p, c, rfl, ho, hb⟩
  have hf := Lib.hid (show GivesC w [1] 0 (.returned (.tuple #[.slice p 1 c, .int .i64 0])) w2 from ⟨p, c, rfl, ho.mono HK.out.size, Kp.nx HK.out hb⟩)
  clear ho hb
  go_wp2_with fail
  go_ret2
  exact hf.out
set_option maxHeartbeats 2000000 in
theorem pz_ok (hx : Rd w a ca xs) (lx : xs.length = l) (h : l ≤ 10000) (n s : Nat) (hs : s = bitLen (V xs)) (hn : s * n ≤ 1048576) (hcase : (s = 0 ∧ n ≤ 0) ∨ 2 ≤ s) (hz : zs = L (V xs ^ n)) :
    Calls Try.prog 20 #[.slice a l ca, .int .i64 (n : Int)] w (GivesC w zs 0) := by
  obtain ⟨X, hX⟩ : ∃ X, X = V xs := ⟨_, rfl⟩
  obtain ⟨M, hM1, hM2⟩ : ∃ M, 16384 ≤ M ∧ M ≤ 16384 := ⟨16384, Nat.le_refl _, Nat.le_refl _⟩
  have HL := Lib.hid (RN.len hx lx (by omega) s hs)
  rw [← hX] at hs hz
  have FP := Lib.hid (show ∀ i, i ≤ n → Fits (X ^ i) M from fun i hi => fits_pow X i M (by omega) (by rw [← hs]; exact Nat.le_trans (Nat.mul_le_mul_left _ hi) hn))
  have HM := Lib.hid (fun (w1 : World) (p : Option Addr) (c : Nat) (us vs : List Nat) (h1 : Rd w1 p c us) (hx : Rd w1 a ca xs) (hl : us.length ≤ 20000) (hz : vs = L (V us * X)) => RN.mul (zs := vs) h1 hx rfl lx (by omega) (by omega) (by rw [hz, hX]))
  have HX := Lib.hid hx
  have HZ := Lib.hid hz
  have hq : s = 0 ∨ (n : Int) ≤ 1048576 / (s : Int) := by
    rcases hcase with h1 | h1
    · exact .inl h1.1
    · exact .inr (le_quot s n (by omega) hn)
  have nb : n ≤ 1048576 := by
    rcases hcase with h1 | h1
    · omega
    · exact Nat.le_trans (Nat.le_mul_of_pos_left n (by omega)) hn
  clear hx lx hX hz hs hn
  have key : (s = 0 ∧ n ≤ 0) ∨ (2 ≤ s ∧ (n : Int) ≤ 1048576 / (s : Int)) := by
    rcases hcase with h1 | h1
    · exact .inl h1
    · rcases hq with h2 | h2
      · omega
      · exact .inr ⟨h1, h2⟩
  clear hcase hq
  rcases key with ⟨rfl, hn0⟩ | ⟨hs2, hq⟩
  · obtain rfl : n = 0 := by omega
    have e1 : zs = [1] := by rw [HZ.out, Nat.pow_zero]; exact L1.symm
    subst e1
    clear hn0 HZ
    go_enter Try.func20, Try.ntmps20
    go_wp2_with fail
    refine HL.out.mono ?_; rintro e w1 ⟨rfl, hb⟩
    have HK := Lib.hid hb
    clear hb
    go_wp2_with fail
    refine (one _).mono ?_; rintro e w2 ⟨p, c, rfl, ho, hb⟩
    have hf := Lib.hid (show GivesC w [1] 0 (.returned (.tuple #[.slice p 1 c, .int .i64 0])) w2 from ⟨p, c, rfl, ho.mono HK.out.size, Kp.nx HK.out hb⟩)
    clear ho hb
    go_wp2_with fail
    go_loopw [7, 8] (fun s7 s8 wr => s7 = .slice p 1 c ∧ s8 = .int .i64 0 ∧ Hid (w2 = wr)) (fun _ _ _ => 0)
    case atStart => exact ⟨rfl, rfl, rfl⟩
    case round =>
      obtain ⟨rfl, rfl, hw⟩ := hrel
      have hw := hw.out
      subst hw
      go_wp2_with fail
      go_ret2
      exact hf.out
  · go_enter Try.func20, Try.ntmps20
    go_wp2_with fail
    refine HL.out.mono ?_; rintro e w1 ⟨rfl, hb⟩
    have HK := Lib.hid hb
    have HX1 := Lib.hid (HX.out.nx hb)
    clear hb HX HL
    go_wp2_with fail
    refine (one _).mono ?_; rintro e w2 ⟨p, c, rfl, ho, hb⟩
    have HO := Lib.hid (ho.mono HK.out.size)
    have HX2 := Lib.hid (HX1.out.nx hb)
    have HK2 := Lib.hid (Kp.nx HK.out hb)
    clear ho hb HX1 HK
    go_wp2_with fail
    go_loopw [7, 8] (fun s7 s8 wr => ∃ (i c : Nat) (p : Option Addr) (us : List Nat), s7 = .slice p us.length c ∧ s8 = .int .i64 i ∧ i ≤ n ∧ Hid (us = L (X ^ i)) ∧ Hid (Own 36 w.heap.size wr p c us) ∧ Hid (Rd wr a ca xs) ∧ Hid (Kp w wr)) (fun _ s _ => n - (intOf s).toNat)
    case atStart => exact ⟨0, c, p, [1], rfl, rfl, by omega, by rw [Hid, Nat.pow_zero]; exact L1, HO.out, HX2.out, HK2.out⟩
    case round =>
      obtain ⟨i, c, p, us, rfl, rfl, hi, EU, SU, SX, KW⟩ := hrel
      obtain ⟨wo, rfl⟩ : ∃ wo : World, wo = wr := ⟨_, rfl⟩
      have lu : us.length ≤ M := by rw [EU.out]; exact (FP.out i hi).len
      by_cases hlt : i < n
      · obtain ⟨vs, hvs⟩ : ∃ z, z = L (X ^ (i + 1)) := ⟨_, rfl⟩
        have HC := Lib.hid (HM.out wo p c us vs SU.out.rd SX.out (by omega) (by rw [hvs, EU.out, V_L, Nat.pow_succ]))
        have EV := Lib.hid hvs
        clear hvs
        go_wp2_with fail
        refine HC.out.mono ?_; rintro e w3 ⟨p3, c3, rfl, ho3, hb3⟩
        have SU3 := Lib.hid (ho3.mono KW.out.size)
        have SX3 := Lib.hid (SX.out.nx hb3)
        have KW3 := Lib.hid (Kp.nx KW.out hb3)
        clear ho3 hb3 HC
        go_wp2_with fail
        go_roundw
        case rel => exact ⟨i + 1, c3, p3, vs, rfl, by go_num, by omega, EV, SU3, SX3, KW3⟩
        case measure => simp [intOf]; omega
      · obtain rfl : i = n := by omega
        have e1 : us = zs := by rw [EU.out, HZ.out]
        have hf := Lib.hid (show GivesC w zs 0 (.returned (.tuple #[.slice p zs.length c, .int .i64 0])) wo from ⟨p, c, rfl, by have := SU.out; rw [e1] at this; exact this, KW.out⟩)
        rw [e1]
        clear e1 EU SU SX KW HZ
        go_wp2_with fail
        go_ret2
        exact hf.out
theorem bitLen_one {x : Nat} (h : bitLen x = 1) : x = 1 := by
  have h1 := (bitLen_le_iff x 1).1 (by omega)
  by_cases h0 : x = 0
  · subst h0; cases h
  · omega
theorem powB (hx : Rd w a ca xs) (lx : xs.length = l) (h : l ≤ 10000) (n c : Int) (hn1 : n ≤ 9223372036854775807) (hz : zs = pwL (V xs) n) (hc : c = pwE (V xs) n) :
    Calls Try.prog 20 #[.slice a l ca, .int .i64 n] w (GivesC w zs c) := by
  by_cases h0 : n < 0
  · obtain rfl : zs = [] := by rw [hz, pwL, if_pos (.inl h0)]
    obtain rfl : c = 1 := by rw [hc, pwE, if_pos h0]
    exact pz_neg n h0
  · by_cases h5 : 1048576 < (bitLen (V xs) : Int) * n
    · obtain rfl : zs = [] := by rw [hz, pwL, if_pos (.inr h5)]
      obtain rfl : c = 5 := by rw [hc, pwE, if_neg h0, if_pos h5]
      exact pz_long hx lx h n (by omega) h5
    · rw [pwL, if_neg (by intro h'; rcases h' with h' | h'; exact h0 h'; exact h5 h')] at hz
      obtain rfl : c = 0 := by rw [hc, pwE, if_neg h0, if_neg h5]
      obtain ⟨m, rfl⟩ : ∃ m : Nat, n = m := ⟨n.toNat, by omega⟩
      rw [Int.toNat_natCast] at hz
      have hb : bitLen (V xs) * m ≤ 1048576 := by
        have : ((bitLen (V xs) * m : Nat) : Int) ≤ 1048576 := by rw [Int.natCast_mul]; omega
        omega
      by_cases hv : V xs = 0
      · by_cases hm : 0 < m
        · obtain rfl : zs = [] := by rw [hz, hv, Nat.zero_pow hm]; rfl
          exact pz_zero hx lx h m (by omega) hv
        · exact pz_ok hx lx h m _ rfl hb (.inl ⟨by rw [hv]; rfl, by omega⟩) hz
      · have hp := bitLen_pos _ hv
        by_cases h1 : bitLen (V xs) = 1
        · have e := bitLen_one h1
          obtain rfl : zs = [1] := by rw [hz, e, Nat.one_pow]; exact L1.symm
          rw [h1] at hb
          exact pz_one hx lx h m (by omega) (by omega) e
        · exact pz_ok hx lx h m _ rfl hb (.inr (by omega)) hz
end Go.Proofs.QL
