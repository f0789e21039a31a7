/- The document's Power, Shl, Shr of layer 2. -/
import Derived.Test.YtacjfbjhkogdaaaRefH
namespace Go.Proofs.RN
open Go.RowKit
open Go.Proofs
open Go.Proofs.NP
open Go.Proofs.SL
set_option linter.unusedVariables false
set_option linter.unusedSimpArgs false
variable {w : World} {a b : Option Addr} {ca cb l k : Nat} {xs ys zs : List Nat}

theorem two_le (r : Nat) (h : r ≤ 15) : 2 ^ r ≤ 32768 := Nat.le_trans (Nat.pow_le_pow_right (by decide) h) (by decide)

set_option maxHeartbeats 1000000 in
theorem power (n : Nat) (hn : n ≤ 65536) (w : World) (hz : zs = L (2 ^ n)) :
    Calls Try.prog 51 #[.int .i64 (n : Int)] w (Gives 34 w zs) := by
  obtain ⟨i0, hi, hz0, hz1, hz2⟩ := info_parts NT.Try.info34
  obtain ⟨wm, hmk, hown0, hgr0⟩ := run_make_full (P := Try.prog) w w.heap.size 22 34 i0 (.int .u64 0) 1 Try.underlying22 hi hz0 hz1 .i64 .i64 (n / 16 + 1) (by rw [hz2]; omega) (by unfold maxLen; omega) (Nat.le_refl _)
  rw [Nat.mul_one, show (Value.int .u64 0).cells = #[Value.int .u64 0] from rfl, toList_madeCells_one] at hown0
  rw [show (((n / 16 + 1 : Nat)) : Int) = (n : Int) / 16 + 1 by omega] at hmk
  have ho : Own 34 w.heap.size wm (some ⟨w.heap.size, 0, none⟩) (n / 16 + 1) (List.replicate (n / 16 + 1) 0) := ⟨Dig.zeros (by decide) _, by simpa [enc] using hown0⟩
  have hb : Below w.heap.size w wm := (Below.refl _ _).grown hgr0 (Nat.le_refl _) (fun k hk => by cases hk)
  clear hown0 hgr0
  have co := ho.cell (n / 16) (by simp)
  have cf := ho.free (n / 16)
  have o2 := ho.store (n / 16) (2 ^ (n % 16)) (by have := two_le (n % 16) (by omega); omega)
  have hg := ho.ge.1
  have hb2 := Lib.hid (hb.setCell (p := ⟨w.heap.size, n / 16, none⟩) hg (.int .u64 ((2 ^ (n % 16) : Nat) : Int)))
  have PV := Lib.hid (power_val n (n / 16 + 1) rfl)
  have PD := Lib.hid (power_dig n (n / 16 + 1))
  have HJ := Lib.hid (join' (l := n / 16 + 1) (zs := zs) o2.1.rd (power_dig n (n / 16 + 1)) (by simp) (by omega) (by rw [hz]; congr 1; exact (power_val n (n / 16 + 1) rfl).symm))
  have hEq := Lib.hid hmk
  have HT := Lib.hid (fun r => two_le r)
  clear hmk hz ho hb o2
  go_enter Try.func51, Try.ntmps51
  go_wp2_with (rw [hEq.out])
  go_loop [4, 5] (fun s4 s5 => ∃ x k : Nat, s4 = .int .u64 x ∧ s5 = .int .i64 k ∧ k ≤ n % 16 ∧ x ≤ 32768 ∧ Hid (x = 2 ^ k)) (fun _ s => n % 16 - (intOf s).toNat)
  case atStart => exact ⟨1, 0, rfl, rfl, by omega, by omega, rfl⟩
  case round =>
    obtain ⟨x, k, rfl, rfl, hk, hx, HX⟩ := hrel
    by_cases hlt : k < n % 16
    · have HX2 : Hid (2 * x = 2 ^ (k + 1)) := by rw [Hid, HX.out, Nat.pow_succ']
      have hx2 : 2 * x ≤ 32768 := by rw [HX2.out]; exact HT.out _ (by omega)
      clear HX
      go_wp2_with fail
      refine ⟨⟨2 * x, k + 1, by simp, by simp, by omega, hx2, HX2⟩, ?_⟩
      simp [intOf]; omega
    · have hkr : k = n % 16 := by omega
      have hxe : ((2 ^ (n % 16) : Nat) : Int) = (x : Int) := by rw [HX.out, hkr]
      rw [hxe] at HJ hb2
      clear hkr hxe HX
      go_wp2_with fail
      refine HJ.out.mono ?_
      rintro e w3 ⟨q3, d3, rfl, ho3, hb3⟩
      have hf := Lib.hid (Gives.step hb2.out ho3 hb3)
      clear HJ ho3 hb3
      go_wp2
      go_ret
      exact hf.out

theorem shl_no (len : Nat) (n : Int) (w : World) (h : n < 0 ∨ 65536 < n) :
    Calls Try.prog 25 #[.slice a len ca, .int .i64 n] w fun e w' => e = .returned (.tuple #[.slice none 0 0, .int .i64 1]) ∧ w = w' := by
  rcases h with h | h
  all_goals
    go_enter Try.func25, Try.ntmps25
    go_wp2_with fail
    go_ret2
    exact ⟨rfl, rfl⟩
theorem shr_no (len : Nat) (n : Int) (w : World) (h : n < 0 ∨ 65536 < n) :
    Calls Try.prog 26 #[.slice a len ca, .int .i64 n] w fun e w' => e = .returned (.tuple #[.slice none 0 0, .int .i64 1]) ∧ w = w' := by
  rcases h with h | h
  all_goals
    go_enter Try.func26, Try.ntmps26
    go_wp2_with fail
    go_ret2
    exact ⟨rfl, rfl⟩

theorem shl_ok (hx : Rd w a ca xs) (lx : xs.length = l) (h : l ≤ 50000) (i : Nat) (hi : i ≤ 65536) (hz : zs = L (V xs * 2 ^ i)) :
    Calls Try.prog 25 #[.slice a l ca, .int .i64 (i : Int)] w (NR.GivesE 34 w zs) := by
  obtain ⟨ps, hp⟩ : ∃ ps, ps = L (2 ^ i) := ⟨_, rfl⟩
  have hpl : ps.length ≤ 2000 := by
    rw [hp]
    refine Nat.le_trans (L_len _ (i / 64 + 1) ?_) (by omega)
    rw [show (18446744073709551616 : Nat) = 2 ^ 64 by decide, ← Nat.pow_mul]
    exact Nat.pow_lt_pow_right (by decide) (by omega)
  have HP := Lib.hid (power i hi w hp)
  have HM := Lib.hid (fun (w1 : World) (p : Option Addr) (c : Nat) (h1 : Rd w1 a ca xs) (h2 : Rd w1 p c ps) => mul (zs := zs) h1 h2 lx rfl h (by omega) (by rw [hz, hp, V_L]))
  have HX := Lib.hid hx
  clear hp hz hx lx
  go_enter Try.func25, Try.ntmps25
  go_wp2_with fail
  refine HP.out.mono ?_
  rintro e w1 ⟨p, c, rfl, ho, hb⟩
  have HC := Lib.hid (HM.out w1 p c (HX.out.nx hb) ho.rd)
  have HB := Lib.hid hb
  clear HP HM ho hb
  go_wp2_with fail
  refine HC.out.mono ?_
  rintro e w3 ⟨q3, d3, rfl, ho3, hb3⟩
  have hf := Lib.hid (show NR.GivesE 34 w zs (.returned (.tuple #[.slice q3 zs.length d3, .int .i64 0])) w3 from ⟨q3, d3, rfl, ho3.mono HB.out.size, HB.out.trans (hb3.mono HB.out.size)⟩)
  clear HC ho3 hb3
  go_wp2
  go_ret2
  exact hf.out

set_option maxHeartbeats 4000000 in
theorem shr_ok (hx : Rd w a ca xs) (lx : xs.length = l) (h : l ≤ 50000) (n : Nat) (hn : n ≤ 65536) (hz : zs = L (V xs / 2 ^ n)) :
    Calls Try.prog 26 #[.slice a l ca, .int .i64 (n : Int)] w (NR.GivesE 34 w zs) := by
  obtain ⟨i0, hi, hz0, hz1, hz2⟩ := info_parts NT.Try.info34
  obtain ⟨ds, hds⟩ : ∃ ds, ds = D (V xs) := ⟨_, rfl⟩
  have hdl : ds.length ≤ 200000 := by have := D_len hx.ws; rw [hds]; omega
  obtain ⟨B, hB⟩ : ∃ B, B = bitLen (V xs) := ⟨_, rfl⟩
  have hB1 : B ≤ 16 * ds.length := by
    rw [hB, bitLen_le_iff, Nat.pow_mul, hds]; exact Dlt _
  obtain ⟨T, hT⟩ : ∃ T, T = V xs / 2 ^ n := ⟨_, rfl⟩
  have TB := Lib.hid (show ∀ i, n ≤ i → B ≤ i → T % 2 ^ (i - n) = T from fun i h1 h2 => by
    apply Nat.mod_eq_of_lt
    rw [hT, Nat.div_lt_iff_lt_mul (Nat.two_pow_pos n), ← Nat.pow_add, Nat.sub_add_cancel h1]
    exact (bitLen_le_iff _ _).1 (by omega))
  have TI := Lib.hid (show ∀ k, V xs / 2 ^ (n + k) = T / 2 ^ k from fun k => by rw [hT, Nat.div_div_eq_div_mul, ← Nat.pow_add])
  rw [← hT] at hz
  have HZ := Lib.hid hz
  have HC := Lib.hid (digits' hx lx (by omega) hds)
  have HL := Lib.hid (fun (w1 : World) (hx : Rd w1 a ca xs) => len hx lx (by omega) B hB)
  have HBt := Lib.hid (fun (w1 : World) (hx : Rd w1 a ca xs) (i : Nat) (hi : i ≤ 10000000) (z : Bool) (hz : z = (V xs / 2 ^ i % 2 == 1)) => bit hx lx (by omega) i (by omega) z hz)
  have HX := Lib.hid hx
  have HT := Lib.hid (fun r => two_le r)
  clear hz hds hx lx hB hT
  go_enter Try.func26, Try.ntmps26
  go_wp2_with fail
  refine HC.out.mono ?_
  rintro e w1 ⟨p, c, rfl, ho, hb⟩
  have HX1 := Lib.hid (HX.out.nx hb)
  have HB1 := Lib.hid hb
  clear HC HX ho hb
  obtain ⟨wm, hmk, hown0, hgr0⟩ := run_make_full (P := Try.prog) w1 w1.heap.size 22 34 i0 (.int .u64 0) 1 Try.underlying22 hi hz0 hz1 .i64 .i64 (ds.length + 1) (by rw [hz2]; omega) (by unfold maxLen; omega) (Nat.le_refl _)
  rw [Nat.mul_one, show (Value.int .u64 0).cells = #[Value.int .u64 0] from rfl, toList_madeCells_one] at hown0
  rw [show (((ds.length + 1 : Nat)) : Int) = (ds.length : Int) + 1 by omega] at hmk
  have ho0 : Own 34 w1.heap.size wm (some ⟨w1.heap.size, 0, none⟩) (ds.length + 1) (List.replicate (ds.length + 1) 0) := ⟨Dig.zeros (by decide) _, by simpa [enc] using hown0⟩
  have hb0 : Below w1.heap.size w1 wm := (Below.refl _ _).grown hgr0 (Nat.le_refl _) (fun k hk => by cases hk)
  clear hown0 hgr0
  have hEq := Lib.hid hmk
  clear hmk
  go_wp2_with (rw [hEq.out])
  go_loopw [7] (fun s wr => ∃ (i : Nat) (os : List Nat), s = .int .i64 i ∧ n ≤ i ∧ (i ≤ n ∨ i ≤ B) ∧ os.length = ds.length + 1 ∧ Hid (Dig 65536 os) ∧ Hid (val 65536 os = T % 2 ^ (i - n)) ∧ Own 34 w1.heap.size wr (some ⟨w1.heap.size, 0, none⟩) (ds.length + 1) os ∧ Below w1.heap.size w1 wr) (fun s _ => B - (intOf s).toNat)
  case atStart => exact ⟨n, _, rfl, by omega, .inl (by omega), by simp, Dig.zeros (by decide) _, by rw [Hid, val_zeros]; simp [Nat.mod_one], ho0, hb0⟩
  case round =>
    obtain ⟨i, os, rfl, hni, hib, hol, HD, HV, ho, hb⟩ := hrel
    obtain ⟨wo, rfl⟩ : ∃ wo : World, wo = wr := ⟨_, rfl⟩
    have hxo := HX1.out.nx hb
    have HL1 := Lib.hid (HL.out wo hxo)
    have HXo := Lib.hid hxo
    clear hxo
    go_wp2_with fail
    refine HL1.out.mono ?_
    rintro e w3 ⟨rfl, hb3⟩
    have ho3 := ho.nx hb3
    have hb13 : Below w1.heap.size w1 w3 := Kp.nx hb hb3
    have HX3 := HXo.out.nx hb3
    clear HL1 HXo ho hb hb3 ho0 hb0
    by_cases hlt : i < B
    · obtain ⟨k, rfl⟩ : ∃ k, i = n + k := ⟨i - n, by omega⟩
      rw [show n + k - n = k by omega] at HV
      have hkl : k / 16 < os.length := by omega
      obtain ⟨z, hzz⟩ : ∃ z : Bool, z = (V xs / 2 ^ (n + k) % 2 == 1) := ⟨_, rfl⟩
      have HB3 := Lib.hid (HBt.out w3 HX3 (n + k) (by omega) z hzz)
      rw [TI.out] at hzz
      have HZZ := Lib.hid hzz
      clear hzz HX3
      rw [show ((n + k : Nat) : Int) = (n : Int) + (k : Int) by omega] at HB3 ⊢
      go_wp2_with fail
      refine HB3.out.mono ?_
      rintro e w4 ⟨rfl, hb4⟩
      have ho4 := ho3.nx hb4
      have hb14 : Below w1.heap.size w1 w4 := Kp.nx hb13 hb4
      clear HB3 ho3 hb13 hb4
      cases z with
      | false =>
        have hz0 : T / 2 ^ k % 2 = 0 := by have := HZZ.out; simp at this; omega
        have HV2 : Hid (val 65536 os = T % 2 ^ (n + k + 1 - n)) := by rw [Hid, HV.out, show n + k + 1 - n = k + 1 by omega]; exact bit_not T k hz0
        clear hz0 HZZ HV
        go_wp2_with fail
        go_roundw
        case rel => exact ⟨n + k + 1, os, by go_num, by omega, .inr (by omega), hol, HD, HV2, ho4, hb14⟩
        case measure => simp [intOf]; omega
      | true =>
        have hz1 : T / 2 ^ k % 2 = 1 := by have := HZZ.out; simp at this; omega
        have hset := bit_set T k HD.out HV.out hkl hz1
        have hroom := bit_room T k HD.out HV.out
        have co := ho4.cell (k / 16) hkl
        have cf := ho4.free (k / 16)
        have o2 := ho4.store (k / 16) (os[k / 16]?.getD 0 + 2 ^ (k % 16)) (by omega)
        have hg := ho4.ge.1
        have hb5 := hb14.setCell (p := ⟨w1.heap.size, k / 16, none⟩) hg (.int .u64 ((os[k / 16]?.getD 0 + 2 ^ (k % 16) : Nat) : Int))
        obtain ⟨ps, hps⟩ : ∃ ps, ps = os.set (k / 16) (os[k / 16]?.getD 0 + 2 ^ (k % 16)) := ⟨_, rfl⟩
        have hpl : ps.length = ds.length + 1 := by rw [hps]; simp; omega
        rw [← hps] at hset o2
        have HD2 := Lib.hid hset.1
        have HV2 : Hid (val 65536 ps = T % 2 ^ (n + k + 1 - n)) := by rw [Hid, show n + k + 1 - n = k + 1 by omega]; exact hset.2
        have o3 := o2.1
        obtain ⟨v, hv⟩ : ∃ v, v = os[k / 16]?.getD 0 := ⟨_, rfl⟩
        obtain ⟨t, ht⟩ : ∃ t, t = 2 ^ (k % 16) := ⟨_, rfl⟩
        rw [← hv] at co hroom o3 hb5
        rw [← ht] at hroom o3 hb5
        have HT1 := Lib.hid ht
        have HF := Lib.hid (show Own 34 w1.heap.size (w4.setCell ⟨w1.heap.size, k / 16, none⟩ (.int .u64 ((v + t : Nat) : Int))) (some ⟨w1.heap.size, 0, none⟩) (ds.length + 1) ps ∧ Below w1.heap.size w1 (w4.setCell ⟨w1.heap.size, k / 16, none⟩ (.int .u64 ((v + t : Nat) : Int))) from ⟨o3, hb5⟩)
        rw [show ((v + t : Nat) : Int) = (v : Int) + (t : Int) by omega] at HF
        clear hz1 hset o2 o3 hb5 hps hv ht HZZ HV HD ho4 hb14
        go_wp2_with fail
        go_loop [9, 10] (fun s4 s5 => ∃ x m : Nat, s4 = .int .u64 x ∧ s5 = .int .i64 m ∧ m ≤ k % 16 ∧ x ≤ 32768 ∧ Hid (x = 2 ^ m)) (fun _ s => k % 16 - (intOf s).toNat)
        case atStart => exact ⟨1, 0, rfl, rfl, by omega, by omega, rfl⟩
        case round =>
          obtain ⟨x, m, rfl, rfl, hm, hx, HXM⟩ := hrel
          by_cases hlt2 : m < k % 16
          · have HX2 : Hid (2 * x = 2 ^ (m + 1)) := by rw [Hid, HXM.out, Nat.pow_succ']
            have hx2 : 2 * x ≤ 32768 := by rw [HX2.out]; exact HT.out _ (by omega)
            clear HXM
            go_wp2_with fail
            refine ⟨⟨2 * x, m + 1, by simp, by simp, by omega, hx2, HX2⟩, ?_⟩
            simp [intOf]; omega
          · have hkr : m = k % 16 := by omega
            obtain rfl : x = t := by rw [HT1.out, HXM.out, hkr]
            clear hkr HXM HT1
            go_wp2_with fail
            go_roundw
            case rel => exact ⟨n + k + 1, ps, by go_num, by omega, .inr (by omega), hpl, HD2, HV2, HF.out.1, HF.out.2⟩
            case measure => simp [intOf]; omega
    · have hv := TB.out i hni (by omega)
      have hvo := HV.out
      rw [hv] at hvo
      have HJ := Lib.hid (join' (l := ds.length + 1) (zs := zs) ho3.rd HD.out hol (by omega) (by rw [HZ.out]; congr 1; exact hvo.symm))
      have hbb := Lib.hid (Kp.nx HB1.out hb13)
      clear hv hvo HV ho3 hb13
      go_wp2_with fail
      refine HJ.out.mono ?_
      rintro e w5 ⟨q3, d3, rfl, ho5, hb5⟩
      have hf := Lib.hid (show NR.GivesE 34 w zs (.returned (.tuple #[.slice q3 zs.length d3, .int .i64 0])) w5 from ⟨q3, d3, rfl, ho5.mono hbb.out.size, hbb.out.trans (hb5.mono hbb.out.size)⟩)
      clear HJ ho5 hb5
      go_wp2
      go_ret2
      exact hf.out
end Go.Proofs.RN
