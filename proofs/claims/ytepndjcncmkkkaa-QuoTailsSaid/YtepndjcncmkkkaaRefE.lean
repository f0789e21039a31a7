/- The document's Cmp, Len, Bit of layer 2. -/
import Derived.Test.YtepndjcncmkkkaaRefD
namespace Go.Proofs.RN
open Go.RowKit
open Go.Proofs
open Go.Proofs.NP
open Go.Proofs.SL
set_option linter.unusedVariables false
set_option linter.unusedSimpArgs false
variable {w : World} {a b : Option Addr} {ca cb l k : Nat} {xs ys zs : List Nat}

set_option maxHeartbeats 2000000 in
theorem cmp (hx : Rd w a ca xs) (hy : Rd w b cb ys) (lx : xs.length = l) (ly : ys.length = k) (h : l ≤ 100000) (h' : k ≤ 100000) (z : Int) (hz : z = NT.cmpI (V xs) (V ys)) :
    Calls Try.prog 31 #[.slice a l ca, .slice b k cb] w fun e w' => e = .returned (.int .i64 z) ∧ Kp w w' := by
  obtain ⟨ds, hds⟩ : ∃ ds, ds = D (V xs) := ⟨_, rfl⟩
  obtain ⟨es, hes⟩ : ∃ es, es = D (V ys) := ⟨_, rfl⟩
  have hdl : ds.length ≤ 400000 := by have := D_len hx.ws; rw [hds]; omega
  have hel : es.length ≤ 400000 := by have := D_len hy.ws; rw [hes]; omega
  have HL := Lib.hid (show ds.length < es.length → z = -1 by intro h; rw [hz, NT.cmpI, if_pos (Dlen_lt (by rw [← hds, ← hes]; exact h))])
  have HG := Lib.hid (show es.length < ds.length → z = 1 by
    intro h
    have := Dlen_lt (x := V ys) (y := V xs) (by rw [← hds, ← hes]; exact h)
    rw [hz, NT.cmpI, if_neg (by omega), if_pos this])
  have DX := Lib.hid (show ∀ i : Nat, ds[i]?.getD 0 = dg 65536 (V xs) i from fun i => by rw [hds]; exact Ddg _ i)
  have DY := Lib.hid (show ∀ i : Nat, es[i]?.getD 0 = dg 65536 (V ys) i from fun i => by rw [hes]; exact Ddg _ i)
  have HLT := Lib.hid (lt_of_dg 65536 (by decide) (V xs) (V ys))
  have HGT := Lib.hid (lt_of_dg 65536 (by decide) (V ys) (V xs))
  have HEQ := Lib.hid (eq_of_dg 65536 (by decide) (V xs) (V ys))
  have HZ := Lib.hid hz
  have HC := Lib.hid (digits' hx lx h hds)
  have HD := Lib.hid (fun (w1 : World) (hy : Rd w1 b cb ys) => digits' hy ly h' hes)
  have HY := Lib.hid hy
  clear hz hds hes hx hy lx ly
  go_enter Try.func31, Try.ntmps31
  go_wp2_with fail
  refine HC.out.mono ?_
  rintro e w1 ⟨p, c, rfl, ho, hb⟩
  have hr := ho.rd
  have HY2 := HY.out.nx hb
  clear HC HY ho
  go_wp2_with fail
  refine (HD.out w1 HY2).mono ?_
  rintro e w2 ⟨q, d, rfl, ho2, hb2⟩
  have hr2 := ho2.rd
  have hr1 := hr.nx hb2
  have hkp : Hid (Kp w w2) := Kp.nx hb hb2
  clear HD HY2 hr ho2 hb hb2
  rcases Nat.lt_trichotomy ds.length es.length with h1 | h1 | h1
  · have hz := Lib.hid (HL.out h1)
    have h1' : ¬ (ds.length : Int) = es.length := by omega
    go_wp2_with fail
    go_ret
    exact ⟨W.ret_int hz.out.symm, hkp.out⟩
  · obtain ⟨m, hm⟩ : ∃ m, ds.length = m := ⟨_, rfl⟩
    rw [hm] at h1
    replace h1 := h1.symm
    have HM := Lib.hid hm
    have HM2 := Lib.hid h1
    rw [hm, h1]
    rw [hm] at hdl
    clear hm h1 hel HL HG
    go_wp2_with fail
    go_loopw [7] (fun s wr => ∃ k : Nat, s = .int .i64 ((k : Int) - 1) ∧ k ≤ m ∧ Hid (∀ j, k ≤ j → dg 65536 (V xs) j = dg 65536 (V ys) j) ∧ ∃ kk, wr = w2.drewN kk) (fun s _ => (intOf s + 1).toNat)
    case atStart => exact ⟨m, rfl, by omega, fun j hj => by rw [← DX.out, ← DY.out]; simp [show ds.length ≤ j by rw [HM.out]; exact hj, show es.length ≤ j by rw [HM2.out]; exact hj], 0, rfl⟩
    case round =>
      obtain ⟨k, rfl, hk, hzz, kk, rfl⟩ := hrel
      cases k with
      | zero =>
        have e : Hid (z = 0) := by rw [Hid, HZ.out, NT.cmpI, HEQ.out (fun j => hzz.out j (by omega))]; simp
        go_wp2
        go_ret
        exact ⟨W.ret_int e.out.symm, Kp.dr hkp.out _⟩
      | succ n =>
        rw [show ((n + 1 : Nat) : Int) - 1 = (n : Int) by omega]
        have n1 : n < ds.length := by rw [HM.out]; omega
        have n2 : n < es.length := by rw [HM2.out]; omega
        rcases hr1.at' with h0 | ⟨b1, o1, rfl, _, hc1⟩
        · rw [h0] at n1; simp at n1
        rcases hr2.at' with h0 | ⟨b2, o2, rfl, _, hc2⟩
        · rw [h0] at n2; simp at n2
        have c1 := hc1 n n1
        have c2 := hc2 n n2
        have d1 := DX.out n
        have d2 := DY.out n
        have hL := HLT.out n (fun j hj => hzz.out j hj)
        have hG := HGT.out n (fun j hj => (hzz.out j hj).symm)
        rw [← d1, ← d2] at hL hG
        have hE : ds[n]?.getD 0 = es[n]?.getD 0 → Hid (∀ j, n ≤ j → dg 65536 (V xs) j = dg 65536 (V ys) j) := by
          intro h j hj
          rcases Nat.eq_or_lt_of_le hj with rfl | h'
          · rw [← d1, ← d2, h]
          · exact hzz.out j h'
        have e1 : ds[n]?.getD 0 = ds[n] := by simp [n1]
        have e2 : es[n]?.getD 0 = es[n] := by simp [n2]
        rw [e1, e2] at hL hG hE
        obtain ⟨x, ex⟩ : ∃ x, ds[n] = x := ⟨_, rfl⟩
        obtain ⟨y, ey⟩ : ∃ y, es[n] = y := ⟨_, rfl⟩
        rw [ex] at hL hE hG c1
        rw [ey] at hL hE hG c2
        have b1 : x < 18446744073709551616 := by rw [← ex]; exact hr1.ws.get n n1
        have b2 : y < 18446744073709551616 := by rw [← ey]; exact hr2.ws.get n n2
        clear d1 d2 e1 e2 ex ey hc1 hc2 n1 n2
        rcases Nat.lt_trichotomy x y with h | h | h
        · have e : Hid (z = -1) := by rw [Hid, HZ.out, NT.cmpI, if_pos (hL h)]
          clear hL hG hE
          go_wp2_with fail
          go_quiet (fail)
          go_wp2
          go_ret
          exact ⟨W.ret_int e.out.symm, Kp.dr (Kp.dr hkp.out _) _⟩
        · subst h
          have HE := hE rfl
          clear hL hG hE
          go_wp2_with fail
          go_quiet (fail)
          go_wp2_with fail
          go_quiet (fail)
          go_wp2
          go_roundw
          case rel => exact ⟨n, by go_num, by omega, HE, _, rfl⟩
          case measure => simp [intOf]
        · have e : Hid (z = 1) := by have := hG h; rw [Hid, HZ.out, NT.cmpI, if_neg (by omega), if_pos this]
          have h' : ¬ ((x : Int) < (y : Int)) := by omega
          clear hL hG hE
          go_wp2_with fail
          go_quiet (fail)
          go_wp2_with fail
          go_quiet (fail)
          go_wp2
          go_ret
          exact ⟨W.ret_int e.out.symm, Kp.dr (Kp.dr (Kp.dr hkp.out _) _) _⟩
  · have hz := Lib.hid (HG.out h1)
    have h1' : ¬ (ds.length : Int) = es.length := by omega
    go_wp2_with fail
    go_ret
    exact ⟨W.ret_int hz.out.symm, hkp.out⟩

set_option maxHeartbeats 1000000 in
theorem len (hx : Rd w a ca xs) (lx : xs.length = l) (h : l ≤ 100000) (z : Nat) (hz : z = bitLen (V xs)) :
    Calls Try.prog 19 #[.slice a l ca] w fun e w' => e = .returned (.int .i64 (z : Nat)) ∧ Kp w w' := by
  obtain ⟨ds, hds⟩ : ∃ ds, ds = D (V xs) := ⟨_, rfl⟩
  have hdl : ds.length ≤ 400000 := by have := D_len hx.ws; rw [hds]; omega
  have HZ := Lib.hid (show 0 < ds.length → z = 16 * (ds.length - 1) + bitLen (ds[ds.length - 1]?.getD 0) by
    intro h; rw [hds] at h ⊢; rw [hz]; exact bitLen_D _ h)
  have H0 := Lib.hid (show ds.length = 0 → z = 0 by
    intro h; rw [hds, D_pos_iff] at h; rw [hz, h]; rfl)
  have HC := Lib.hid (digits' hx lx h hds)
  have HD := Lib.hid (show Dig 65536 ds by rw [hds]; exact Dd _)
  clear hz hds hx lx
  go_enter Try.func19, Try.ntmps19
  go_wp2_with fail
  refine HC.out.mono ?_
  rintro e w1 ⟨p, c, rfl, ho, hb⟩
  have hr := ho.rd
  have hkp : Hid (Kp w w1) := hb
  clear HC ho hb
  rcases Nat.eq_zero_or_pos ds.length with h0 | h0
  · have hz := Lib.hid (H0.out h0)
    rw [h0]
    clear hdl h0
    go_wp2_with fail
    go_ret
    exact ⟨W.ret_int (by rw [hz.out]; rfl), hkp.out⟩
  · have hz := HZ.out h0
    obtain ⟨m, hm⟩ : ∃ m, ds.length = m + 1 := ⟨ds.length - 1, by omega⟩
    rcases hr.at' with h1 | ⟨b1, o1, rfl, _, hc1⟩
    · rw [h1] at h0; simp at h0
    have hml : m < ds.length := by omega
    have c1 := hc1 m hml
    have hd := HD.out.get m hml
    rw [hm] at hz hdl ⊢
    simp only [Nat.add_sub_cancel] at hz
    have e1 : ds[m]?.getD 0 = ds[m] := by simp [hml]
    rw [e1] at hz
    obtain ⟨x, ex⟩ : ∃ x, ds[m] = x := ⟨_, rfl⟩
    rw [ex] at hz c1 hd
    have hx16 : bitLen x ≤ 16 := (bitLen_le_iff x 16).2 (by simpa using hd)
    have HZ2 := Lib.hid hz
    clear hz ex e1 hml hm h0 hc1 HZ H0 HD hr
    go_wp2_with fail
    go_loop [4, 5] (fun s4 s5 => ∃ n y : Nat, s4 = .int .i64 n ∧ s5 = .int .u64 y ∧ n ≤ 16 * m + 16 ∧ y < 65536 ∧ n + bitLen y ≤ z ∧ z ≤ n + bitLen y ∧ z ≤ 16 * m + 16) (fun _ s => (intOf s).toNat)
    case atStart => exact ⟨16 * m, x, by simp, rfl, by omega, hd, by rw [HZ2.out]; omega, by rw [HZ2.out]; omega, by rw [HZ2.out]; omega⟩
    case round =>
      obtain ⟨n, y, rfl, rfl, hn, hy, hz1, hz2, hz3⟩ := hrel
      by_cases hy0 : 0 < y
      · have hh := bitLen_half y (by omega)
        have HH := Lib.hid hh
        have e : bitLen y = bitLen (y / 2) + 1 := hh
        rw [e] at hz1 hz2
        clear e hh
        go_wp2_with fail
        refine ⟨⟨n + 1, y / 2, by simp, by simp, by omega, by omega, by omega, by omega, by omega⟩, ?_⟩
        simp [intOf]; omega
      · obtain rfl : y = 0 := by omega
        have e : n = z := by rw [show bitLen 0 = 0 from rfl] at hz1 hz2; omega
        have E := Lib.hid e
        clear e hz1 hz2
        go_wp2_with fail
        go_ret
        exact ⟨W.ret_int (by rw [E.out]), hkp.out⟩

set_option maxHeartbeats 1000000 in
theorem bit_no (hx : Rd w a ca xs) (lx : xs.length = l) (h : l ≤ 100000) (i : Int) (hi : i < 0) :
    Calls Try.prog 29 #[.slice a l ca, .int .i64 i] w fun e w' => e = .returned (.bool false) ∧ Kp w w' := by
  obtain ⟨ds, hds⟩ : ∃ ds, ds = D (V xs) := ⟨_, rfl⟩
  have HC := Lib.hid (digits' hx lx h hds)
  clear hds hx lx
  go_enter Try.func29, Try.ntmps29
  go_wp2_with fail
  refine HC.out.mono ?_
  rintro e w1 ⟨p, c, rfl, ho, hb⟩
  have hkp : Hid (Kp w w1) := hb
  clear HC ho hb
  go_wp2_with fail
  go_ret
  exact ⟨rfl, hkp.out⟩

set_option maxHeartbeats 1000000 in
theorem bit (hx : Rd w a ca xs) (lx : xs.length = l) (h : l ≤ 100000) (i : Nat) (hi : i ≤ 9223372036854775807) (z : Bool) (hz : z = (V xs / 2 ^ i % 2 == 1)) :
    Calls Try.prog 29 #[.slice a l ca, .int .i64 (i : Int)] w fun e w' => e = .returned (.bool z) ∧ Kp w w' := by
  obtain ⟨ds, hds⟩ : ∃ ds, ds = D (V xs) := ⟨_, rfl⟩
  have hdl : ds.length ≤ 400000 := by have := D_len hx.ws; rw [hds]; omega
  have H0 := Lib.hid (show ds.length ≤ i / 16 → z = false by
    intro h; rw [hz, bit_D_none _ _ (by rw [← hds]; exact h)]; rfl)
  have H1 := Lib.hid (show z = (ds[i / 16]?.getD 0 / 2 ^ (i % 16) % 2 == 1) by rw [hz, hds, Ddg, bit_D])
  have HC := Lib.hid (digits' hx lx h hds)
  have HD := Lib.hid (show Dig 65536 ds by rw [hds]; exact Dd _)
  clear hz hds hx lx
  go_enter Try.func29, Try.ntmps29
  go_wp2_with fail
  refine HC.out.mono ?_
  rintro e w1 ⟨p, c, rfl, ho, hb⟩
  have hsl := ho.rd
  have hkp : Hid (Kp w w1) := hb
  clear HC ho hb
  rcases Nat.lt_or_ge (i / 16) ds.length with hql | hql
  · rcases hsl.at' with h0 | ⟨b1, o1, rfl, _, hc1⟩
    · rw [h0] at hql; simp at hql
    have c1 := hc1 (i / 16) hql
    have hd := HD.out.get (i / 16) hql
    have e1 : ds[i / 16]?.getD 0 = ds[i / 16] := by simp [hql]
    have h1 := H1.out
    rw [e1] at h1
    obtain ⟨x, ex⟩ : ∃ x, ds[i / 16] = x := ⟨_, rfl⟩
    rw [ex] at h1 c1 hd
    have HZ := Lib.hid h1
    clear h1 ex e1 hc1 H0 H1 hsl
    go_wp2_with fail
    go_loop [6, 7] (fun s6 s7 => ∃ y k : Nat, s6 = .int .u64 y ∧ s7 = .int .i64 k ∧ k ≤ i % 16 ∧ y < 65536 ∧ Hid (y = x / 2 ^ k)) (fun _ s => i % 16 - (intOf s).toNat)
    case atStart => exact ⟨x, 0, rfl, rfl, by omega, hd, by simp [Hid]⟩
    case round =>
      obtain ⟨y, k, rfl, rfl, hk, hy, HY⟩ := hrel
      by_cases hlt : k < i % 16
      · have HY2 : Hid (y / 2 = x / 2 ^ (k + 1)) := by rw [Hid, HY.out, Nat.div_div_eq_div_mul, Nat.pow_succ]
        clear HY
        go_wp2_with fail
        refine ⟨⟨y / 2, k + 1, by simp, by simp, by omega, by omega, HY2⟩, ?_⟩
        simp [intOf]; omega
      · have hkr : k = i % 16 := by omega
        have E := Lib.hid (show (((y : Int) % 2 == 1) : Bool) = z by rw [HZ.out, ← hkr, ← HY.out, Bool.eq_iff_iff]; simp; omega)
        clear HY HZ
        go_wp2_with fail
        go_ret
        exact ⟨W.ret_bool E.out, hkp.out⟩
  · have hz := Lib.hid (H0.out hql)
    clear H0 H1 hsl
    go_wp2_with fail
    go_ret
    exact ⟨W.ret_bool hz.out.symm, hkp.out⟩
end Go.Proofs.RN
