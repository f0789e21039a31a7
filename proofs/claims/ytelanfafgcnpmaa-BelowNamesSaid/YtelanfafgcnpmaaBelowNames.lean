/- The statement BelowNames: the examples; widths and costs at the ends of each length; nil, and what nobody made. No condition. -/
import Derived.Test.YtelanfafgcnpmaaRows
import Derived.WalkKit
import Derived.ProofKit
import Derived.OpenShut
import Derived.Test.YtelanfafgcnpmaaBelN
import Derived.Deep.RegionHeld3
import Derived.ShutString
import Derived.Below
namespace Go.Proofs.Ytelanfafgcnpmaa.belowNames
open Go.ChangeShapes Go.WideShapes Go.ChangeAt Go.RowKit
open Go.Proofs
open Go.ChangeMaps (open_string shut_string)
set_option linter.unusedVariables false      -- a walk need not use every 'w<i>' (that an integer argument fits its kind)

theorem own : ownKnob Try.prog.godebug = none := by kernel_rfl

open Go.Proofs.BL Go.Proofs.SL Go.Proofs.RA Go.Proofs.BT
set_option linter.unusedSimpArgs false

/-! ### STEP 1: THE WALK: the Go text returns true. 'Grown w w'': the world has at most new blocks (Derived/RowKit3.lean). Part the cases AHEAD of 'go_enter' where a test parts the walk; take each callee by a contract of your own. -/
set_option maxHeartbeats 8000000 in
set_option maxRecDepth 100000 in
theorem walk (w : World) :
    Calls Try.prog 6 #[] w fun e w' => e = .returned (.bool true) ∧ Below w.heap.size w w' := by
  have WA := Lib.hid (fun (n : Nat) (h : 1 ≤ n) (hn : n < 64) (w1 : World) => width1 (2 ^ n) w1 (by have h2 : (2 : Nat) ^ n ≤ 2 ^ 63 := Nat.pow_le_pow_right (by decide) (by omega); omega) n (wid_a n h).symm)
  have WB := Lib.hid (fun (n : Nat) (h : 1 ≤ n) (hn : n < 64) (w1 : World) => width1 (2 ^ n + 1) w1 (by have h2 : (2 : Nat) ^ n ≤ 2 ^ 63 := Nat.pow_le_pow_right (by decide) (by omega); omega) (n + 1) (wid_b n h).symm)
  have WC := Lib.hid (fun (n : Nat) (hn : n < 64) (z : Nat) (hz : z = wid (2 ^ n - 1)) (w1 : World) => width1 (2 ^ n - 1) w1 (by have h2 : (2 : Nat) ^ n ≤ 2 ^ 63 := Nat.pow_le_pow_right (by decide) (by omega); omega) z hz)
  go_enter Try.func6, Try.ntmps6
  go_wp2_with fail
  refine (awake _).mono ?_; rintro e w1 ⟨rfl, hb⟩
  have K := Lib.hid hb
  clear hb
  go_wp2_with fail
  go_loopw [1] (fun s1 wr => ∃ n : Nat, s1 = .int .i64 (n : Int) ∧ 1 ≤ n ∧ n ≤ 64 ∧ Hid (Kp w wr)) (fun v _ => 64 - (intOf v).toNat)
  case atStart => exact ⟨1, rfl, by omega, by omega, K⟩
  case round =>
    clear K
    obtain ⟨n, rfl, h1, h64, K⟩ := hrel
    by_cases hlt : n < 64
    · have hlt2 : (n : Int) < 64 := by omega
      have h2 : (2 : Nat) ^ n ≤ 2 ^ 63 := Nat.pow_le_pow_right (by decide) (by omega)
      have h3 := Nat.two_pow_pos n
      obtain ⟨M, hM⟩ : ∃ M, M = 2 ^ n := ⟨_, rfl⟩
      have hwr : IntKind.u64.wrap ((2 : Int) ^ n) = (M : Int) := by
        have h1 : (2 : Int) ^ n = ((2 ^ n : Nat) : Int) := by simp
        rw [h1, hM]; exact W.wrapN _ (by omega)
      have hw1 : IntKind.u64.wrap ((M : Int) + 1) = ((M + 1 : Nat) : Int) := W.wrapN (M + 1) (by omega)
      have hw2 : IntKind.u64.wrap ((M : Int) - 1) = ((M - 1 : Nat) : Int) := by
        rw [show (M : Int) - 1 = ((M - 1 : Nat) : Int) by omega]; exact W.wrapN (M - 1) (by omega)
      have hw3 : IntKind.i64.wrap ((n : Int) + 1) = ((n + 1 : Nat) : Int) := by rw [IntKind.wrap_i64]; omega
      obtain ⟨z, hz⟩ : ∃ z, z = wid (2 ^ n - 1) := ⟨_, rfl⟩
      have hzz : z = n ∨ n = 1 := by
        rcases Nat.lt_or_ge 1 n with h | h
        · left; rw [hz]; exact wid_c n h
        · right; omega
      have W1 := Lib.hid (fun (w1 : World) => show Calls Try.prog 13 #[.int .u64 (M : Int)] w1 (fun e w' => e = .returned (.int .i64 (n : Int)) ∧ w1 = w') from by rw [hM]; exact WA.out n h1 hlt w1)
      have W2 := Lib.hid (fun (w1 : World) => show Calls Try.prog 13 #[.int .u64 ((M + 1 : Nat) : Int)] w1 (fun e w' => e = .returned (.int .i64 ((n + 1 : Nat) : Int)) ∧ w1 = w') from by rw [hM]; exact WB.out n h1 hlt w1)
      have W3 := Lib.hid (fun (w1 : World) => show Calls Try.prog 13 #[.int .u64 ((M - 1 : Nat) : Int)] w1 (fun e w' => e = .returned (.int .i64 (z : Int)) ∧ w1 = w') from by rw [hM]; exact WC.out n hlt z hz w1)
      obtain ⟨us, hus⟩ : ∃ s, s = L n := ⟨_, rfl⟩
      obtain ⟨vs, hvs⟩ : ∃ s, s = [1] := ⟨_, rfl⟩
      have lu : us.length ≤ 1 := by rw [hus]; exact L_len _ 1 (by omega)
      have lv : vs.length ≤ 1 := by rw [hvs]; decide
      have HC := Lib.hid (fun (w1 : World) => show Calls Try.prog 11 #[.int .u64 (M : Int)] w1 (GivesRat w1 us vs) from by rw [hM]; exact costP n w1 h1 hlt hus hvs)
      have HO := Lib.hid (fun (w1 : World) => fof (us := us) (vs := vs) n w1 (by omega) hus hvs)
      have hzn : ((z : Int) = n ∧ True) ∨ (¬ (z : Int) = n ∧ ¬ ((1 : Int) < n)) := by
        by_cases h : z = n
        · left; exact ⟨by omega, trivial⟩
        · right; exact ⟨by omega, by omega⟩
      clear hM hz hus hvs WA WB WC h2 h3 hzz
      go_wp2_with fail
      refine (W1.out _).mono ?_; rintro e w' ⟨rfl, rfl⟩
      clear W1
      go_wp2_with fail
      refine (W2.out _).mono ?_; rintro e w' ⟨rfl, rfl⟩
      clear W2
      go_wp2_with fail
      refine (W3.out _).mono ?_; rintro e w' ⟨rfl, rfl⟩
      clear W3
      rcases hzn with ⟨hzn, -⟩ | ⟨hzn, hn1⟩
      all_goals
        go_wp2_with fail
        clear hzn
        try clear hn1
        refine (HC.out _).mono ?_; rintro e Wc ⟨p1, c1, q1, d1, rfl, ho, hq, hb⟩
        have X := Lib.hid (RatV.new ho.rd hq.rd)
        replace K := Lib.hid (Kp.nx (Kp.nx K.out hb) ((Kp.refl _).al (.cells #[.bool false, .slice p1 us.length c1, .slice q1 vs.length d1] 28)))
        clear HC ho hq hb
        go_wp2_with fail
        generalize (Wc.alloc (.cells #[.bool false, .slice p1 us.length c1, .slice q1 vs.length d1] 28)) = Y at *
        have HV := Lib.hid (fun (W' : World) (hk : Kp Y W') => show RatV W' Wc.heap.size p1 q1 c1 d1 us vs from X.out.nx hk)
        have HI := Lib.hid (fun (W' : World) (p q : Option Addr) (c d : Nat) (hk : Kp Y W') (h1 : Rd W' p c us) (h2 : Rd W' q d vs) => is6 (X.out.nx hk).ru h1 (X.out.nx hk).rv h2 rfl rfl (by omega) (by omega))
        obtain ⟨g1, hg1⟩ : ∃ g, Wc.heap.size = g := ⟨_, rfl⟩
        rw [hg1] at HV
        simp only [hg1]
        clear X hg1
        go_region_held3 (fun W => W.cell? ⟨g1, 0, none⟩ = some (.bool false) ∧ W.cell? ⟨g1, 1, none⟩ = some (.slice p1 us.length c1) ∧ W.cell? ⟨g1, 2, none⟩ = some (.slice q1 vs.length d1))
          (first
            | exact (HV.out _ (Kp.refl _)).cs
            | exact (HV.out _ (Kp.refl _).dr1).cs
            | exact (HV.out _ ka).cs
            | exact (HV.out _ kb).cs)
          (first
            | (go_at_call 25; (with_reducible refine (HO.out _).mono ?_); rintro e wa ⟨p4, c4, q4, d4, rfl, ha1, ha2, ha3⟩; have ka := Kp.nx (Kp.refl Y).dr1 ha3)
            | (go_at_call 15; (with_reducible refine (HI.out _ p4 q4 c4 d4 ka ha1.rd ha2.rd).mono ?_); rintro e wb ⟨rfl, hb3⟩; have kb := Kp.nx ka hb3))
        have K2 := Lib.hid (Kp.nx K.out kb)
        clear K HV HI HO ha1 ha2 ha3 ka hb3 kb
        go_wp2_with fail

        go_roundw
        case rel => exact ⟨n + 1, by go_num, by omega, by omega, K2⟩
        case measure => simp [intOf]; omega
    · have hlt2 : ¬ ((n : Int) < 64) := by omega
      clear WA WB WC
      have HN1 := Lib.hid (fun w1 => new1_ok ⟨#[49, 49, 48, 49, 49, 49, 49, 49, 49, 48]⟩ w1 (by decide) (by decide +kernel))
      obtain ⟨os, hos⟩ : ∃ s, s = rep 49 1024 := ⟨_, rfl⟩
      have hsz : os.size = 1024 := by rw [hos, rep_size]
      have hob : BT.bits os = true := by rw [hos]; exact ones_bits _
      have HN2 := Lib.hid (fun w1 => new1_ok os w1 (by omega) (by rw [hos]; exact ones_is _ (Nat.le_refl _)))
      have D0 := Lib.hid (fun (g : Nat) (w1 : World) (h : Cp w1 g ⟨#[49, 49, 48, 49, 49, 49, 49, 49, 49, 48]⟩ 0 false) => show Calls Try.prog 21 #[.pointer (some ⟨g, 0, none⟩), .int .u64 0] w1 (fun e w' => e = .returned (.tuple #[.int .u64 0, .bool false]) ∧ Cp w' g ⟨#[49, 49, 48, 49, 49, 49, 49, 49, 49, 48]⟩ 0 false ∧ w1.grownBy w' (some g)) from draw1 g 0 0 ⟨#[49, 49, 48, 49, 49, 49, 49, 49, 49, 48]⟩ false w1 h (by decide) (by decide) (by decide +kernel) (by decide) ⟨0, false, 0, false⟩ (by decide +kernel))
      have D1 := Lib.hid (fun (g : Nat) (w1 : World) (h : Cp w1 g ⟨#[49, 49, 48, 49, 49, 49, 49, 49, 49, 48]⟩ 0 false) => show Calls Try.prog 21 #[.pointer (some ⟨g, 0, none⟩), .int .u64 1] w1 (fun e w' => e = .returned (.tuple #[.int .u64 0, .bool true]) ∧ Cp w' g ⟨#[49, 49, 48, 49, 49, 49, 49, 49, 49, 48]⟩ 0 false ∧ w1.grownBy w' (some g)) from draw1 g 0 1 ⟨#[49, 49, 48, 49, 49, 49, 49, 49, 49, 48]⟩ false w1 h (by decide) (by decide) (by decide +kernel) (by decide) ⟨0, true, 0, false⟩ (by decide +kernel))
      have D2 := Lib.hid (fun (g : Nat) (w1 : World) (h : Cp w1 g ⟨#[49, 49, 48, 49, 49, 49, 49, 49, 49, 48]⟩ 0 false) => show Calls Try.prog 21 #[.pointer (some ⟨g, 0, none⟩), .int .u64 6] w1 (fun e w' => e = .returned (.tuple #[.int .u64 0, .bool false]) ∧ Cp w' g ⟨#[49, 49, 48, 49, 49, 49, 49, 49, 49, 48]⟩ 9 true ∧ w1.grownBy w' (some g)) from draw1 g 0 6 ⟨#[49, 49, 48, 49, 49, 49, 49, 49, 49, 48]⟩ false w1 h (by decide) (by decide) (by decide +kernel) (by decide) ⟨0, false, 9, true⟩ (by decide +kernel))
      have D3 := Lib.hid (fun (g : Nat) (w1 : World) (h : Cp w1 g ⟨#[49, 49, 48, 49, 49, 49, 49, 49, 49, 48]⟩ 9 true) => show Calls Try.prog 21 #[.pointer (some ⟨g, 0, none⟩), .int .u64 1] w1 (fun e w' => e = .returned (.tuple #[.int .u64 0, .bool false]) ∧ Cp w' g ⟨#[49, 49, 48, 49, 49, 49, 49, 49, 49, 48]⟩ 9 true ∧ w1.grownBy w' (some g)) from draw1 g 9 1 ⟨#[49, 49, 48, 49, 49, 49, 49, 49, 49, 48]⟩ true w1 h (by decide) (by decide) (by decide +kernel) (by decide) ⟨0, false, 9, true⟩ (by decide +kernel))
      have D4 := Lib.hid (fun (g : Nat) (w1 : World) (h : Cp w1 g ⟨#[]⟩ 0 false) => show Calls Try.prog 21 #[.pointer (some ⟨g, 0, none⟩), .int .u64 1] w1 (fun e w' => e = .returned (.tuple #[.int .u64 0, .bool true]) ∧ Cp w' g ⟨#[]⟩ 0 false ∧ w1.grownBy w' (some g)) from draw1 g 0 1 ⟨#[]⟩ false w1 h (by decide) (by decide) (by decide +kernel) (by decide) ⟨0, true, 0, false⟩ (by decide +kernel))
      have D5 := Lib.hid (fun (g : Nat) (w1 : World) (h : Cp w1 g os 0 false) => show Calls Try.prog 21 #[.pointer (some ⟨g, 0, none⟩), .int .u64 3] w1 (fun e w' => e = .returned (.tuple #[.int .u64 0, .bool false]) ∧ Cp w' g os 1024 true ∧ w1.grownBy w' (some g)) from draw1 g 0 3 os false w1 h (by omega) (by omega) (hob) (by decide) ⟨0, false, 1024, true⟩ (by rw [hos]; exact draw_3))
      have D6 := Lib.hid (fun (g : Nat) (w1 : World) (h : Cp w1 g os 0 false) => show Calls Try.prog 21 #[.pointer (some ⟨g, 0, none⟩), .int .u64 18446744073709551615] w1 (fun e w' => e = .returned (.tuple #[.int .u64 0, .bool false]) ∧ Cp w' g os 1024 true ∧ w1.grownBy w' (some g)) from draw1 g 0 18446744073709551615 os false w1 h (by omega) (by omega) (hob) (by decide) ⟨0, false, 1024, true⟩ (by rw [hos]; exact draw_64))
      have D7 := Lib.hid (fun (g : Nat) (w1 : World) (h : Cp w1 g os 1024 true) => show Calls Try.prog 21 #[.pointer (some ⟨g, 0, none⟩), .int .u64 9223372036854775808] w1 (fun e w' => e = .returned (.tuple #[.int .u64 0, .bool false]) ∧ Cp w' g os 1024 true ∧ w1.grownBy w' (some g)) from draw1 g 1024 9223372036854775808 os true w1 h (by omega) (by omega) (hob) (by decide) ⟨0, false, 1024, true⟩ (by rw [hos]; exact draw_end _ _ _))
      have HOS := Lib.hid hos
      clear hos hob hsz
      go_wp2_with fail
      refine (cost1_no _).mono ?_; rintro e w7 ⟨rfl, hb⟩
      replace K := Lib.hid (Kp.nx (Kp.nx K.out hb) ((Kp.refl _).al (.cells #[.bool false, .slice none 0 0, .slice none 0 0] 28)))
      clear hb
      go_wp2_with fail
      generalize (w7.alloc (.cells #[.bool false, .slice none 0 0, .slice none 0 0] 28)) = W7 at *
      have hg1 := K.out.size
      refine (HN1.out _).mono ?_; rintro e w8 ⟨rfl, hc, hb⟩
      have C1 := Lib.hid hc
      replace K := Lib.hid (Kp.nx K.out hb)
      obtain ⟨g1, hgg⟩ : ∃ g, W7.heap.size = g := ⟨_, rfl⟩
      rw [hgg] at C1 hg1
      simp only [hgg]
      clear hgg hc hb HN1
      go_wp2_with fail
      refine (D0.out g1 _ C1.out).mono ?_; rintro e w9 ⟨rfl, hc, hgr⟩
      replace K := Lib.hid (Kp.grown K.out hgr (fun k e => by cases e; omega))
      replace C1 := Lib.hid hc
      clear D0 hc hgr
      go_wp2_with fail
      refine (at1 g1 0 _ _ _ C1.out).mono ?_; rintro e w' ⟨rfl, rfl⟩
      go_wp2_with fail
      refine (D1.out g1 _ C1.out).mono ?_; rintro e w9 ⟨rfl, hc, hgr⟩
      replace K := Lib.hid (Kp.grown K.out hgr (fun k e => by cases e; omega))
      replace C1 := Lib.hid hc
      clear D1 hc hgr
      go_wp2_with fail
      refine (D2.out g1 _ C1.out).mono ?_; rintro e w9 ⟨rfl, hc, hgr⟩
      replace K := Lib.hid (Kp.grown K.out hgr (fun k e => by cases e; omega))
      replace C1 := Lib.hid hc
      clear D2 hc hgr
      go_wp2_with fail
      refine (D3.out g1 _ C1.out).mono ?_; rintro e w9 ⟨rfl, hc, hgr⟩
      replace K := Lib.hid (Kp.grown K.out hgr (fun k e => by cases e; omega))
      replace C1 := Lib.hid hc
      clear D3 hc hgr
      go_wp2_with fail
      refine (take_nil 1 _ (by decide)).mono ?_; rintro e w' ⟨rfl, rfl⟩
      go_wp2_with fail
      have C4 := Lib.hid (Cu.new w9 56 ⟨#[]⟩)
      have hg5 := C1.out.lt
      have hg6 := K.out.size
      replace C1 := Lib.hid (C1.out.nx ((Kp.refl _).al (.cells #[.string ⟨#[]⟩, .int .i64 0, .bool false] 56)))
      replace K := Lib.hid (Kp.nx K.out ((Kp.refl _).al (.cells #[.string ⟨#[]⟩, .int .i64 0, .bool false] 56)))
      generalize (w9.alloc (.cells #[.string ⟨#[]⟩, .int .i64 0, .bool false] 56)) = W9 at *
      obtain ⟨g5, hgg⟩ : ∃ g, w9.heap.size = g := ⟨_, rfl⟩
      rw [hgg] at C4 hg5 hg6
      simp only [hgg]
      clear hgg
      refine (D4.out g5 _ C4.out).mono ?_; rintro e w10 ⟨rfl, hc, hgr⟩
      replace K := Lib.hid (Kp.grown K.out hgr (fun k e => by cases e; omega))
      replace C1 := Lib.hid (C1.out.kept hgr (by simp; omega))
      clear D4 hc hgr C4
      go_wp2_with fail
      go_loopw [21, 22] (fun s21 s22 wr => ∃ (i : Nat) (s : ByteArray), s21 = .string s ∧ s22 = .int .i64 (i : Int) ∧ i ≤ 1024 ∧ s.size = i ∧ Hid (s = rep 49 i) ∧ wr = w10) (fun _ v _ => 1024 - (intOf v).toNat)
      case atStart => exact ⟨0, ⟨#[]⟩, rfl, rfl, by omega, rfl, Lib.hid rfl, rfl⟩
      case round =>
        obtain ⟨i, s, rfl, rfl, hi, hs, HS, rfl⟩ := hrel
        by_cases hlt : i < 1024
        · have hlt2 : (i : Int) < 1024 := by omega
          have hs2 : s.size ≤ 1024 := by omega
          clear D5 D6 D7 HN2 HOS
          go_wp2_with fail
          go_roundw
          case rel => exact ⟨i + 1, _, rfl, by go_num, by omega, by rw [ByteArray.size_append, hs]; rfl, Lib.hid (by rw [HS.out]; exact rep_succ 49 i), by trivial⟩
          case measure => simp [intOf]; omega
        · have hlt2 : ¬ ((i : Int) < 1024) := by omega
          have hse : s = os := by rw [HS.out, HOS.out, show i = 1024 by omega]
          clear HS hs
          subst hse
          go_wp2_with fail
          have hg7 := K.out.size
          have hg8 := C1.out.lt
          refine (HN2.out _).mono ?_; rintro e w8 ⟨rfl, hc, hb⟩
          have C5 := Lib.hid hc
          replace C1 := Lib.hid (C1.out.nx hb)
          replace K := Lib.hid (Kp.nx K.out hb)
          obtain ⟨g7, hgg⟩ : ∃ g, wr.heap.size = g := ⟨_, rfl⟩
          rw [hgg] at C5 hg7 hg8
          simp only [hgg]
          clear hgg hc hb
          go_wp2_with fail
          refine (D5.out g7 _ C5.out).mono ?_; rintro e w9 ⟨rfl, hc, hgr⟩
          replace K := Lib.hid (Kp.grown K.out hgr (fun k e => by cases e; omega))
          replace C1 := Lib.hid (C1.out.kept hgr (by simp; omega))
          replace C5 := Lib.hid hc
          clear D5 hc hgr
          go_wp2_with fail
          have hg9 := C5.out.lt
          have hg10 := K.out.size
          refine (HN2.out _).mono ?_; rintro e w11 ⟨rfl, hc, hb⟩
          have C6 := Lib.hid hc
          replace C1 := Lib.hid (C1.out.nx hb)
          replace C5 := Lib.hid (C5.out.nx hb)
          replace K := Lib.hid (Kp.nx K.out hb)
          obtain ⟨g9, hgg⟩ : ∃ g, w9.heap.size = g := ⟨_, rfl⟩
          rw [hgg] at C6 hg9 hg10
          simp only [hgg]
          clear hgg hc hb HN2
          go_wp2_with fail
          refine (D6.out g9 _ C6.out).mono ?_; rintro e w9 ⟨rfl, hc, hgr⟩
          replace K := Lib.hid (Kp.grown K.out hgr (fun k e => by cases e; omega))
          replace C1 := Lib.hid (C1.out.kept hgr (by simp; omega))
          replace C5 := Lib.hid (C5.out.kept hgr (by simp; omega))
          replace C6 := Lib.hid hc
          clear D6 hc hgr
          go_wp2_with fail
          refine (D7.out g9 _ C6.out).mono ?_; rintro e w9 ⟨rfl, hc, hgr⟩
          replace K := Lib.hid (Kp.grown K.out hgr (fun k e => by cases e; omega))
          replace C1 := Lib.hid (C1.out.kept hgr (by simp; omega))
          replace C5 := Lib.hid (C5.out.kept hgr (by simp; omega))
          replace C6 := Lib.hid hc
          clear D7 hc hgr
          go_wp2_with fail
          refine (show Calls Try.prog 13 #[.int .u64 0] _ (fun e w' => e = .returned (.int .i64 0) ∧ _ = w') from width1 0 _ (by decide) 0 (by decide +kernel)).mono ?_; rintro e w' ⟨rfl, rfl⟩
          go_wp2_with fail
          refine (show Calls Try.prog 13 #[.int .u64 1] _ (fun e w' => e = .returned (.int .i64 0) ∧ _ = w') from width1 1 _ (by decide) 0 (by decide +kernel)).mono ?_; rintro e w' ⟨rfl, rfl⟩
          go_wp2_with fail
          refine (show Calls Try.prog 13 #[.int .u64 18446744073709551615] _ (fun e w' => e = .returned (.int .i64 64) ∧ _ = w') from width1 18446744073709551615 _ (by decide) 64 (by decide +kernel)).mono ?_; rintro e w' ⟨rfl, rfl⟩
          go_wp2_with fail
          refine (over1 g1 _ _ _ _ C1.out).mono ?_; rintro e w' ⟨rfl, rfl⟩
          go_wp2_with fail
          refine (at1 g1 _ _ _ _ C1.out).mono ?_; rintro e w' ⟨rfl, rfl⟩
          go_wp2_with fail
          refine (at1 g7 _ _ _ _ C5.out).mono ?_; rintro e w' ⟨rfl, rfl⟩
          go_wp2_with fail
          refine (over1 g7 _ _ _ _ C5.out).mono ?_; rintro e w' ⟨rfl, rfl⟩
          go_wp2_with fail
          refine (over1 g9 _ _ _ _ C6.out).mono ?_; rintro e w' ⟨rfl, rfl⟩
          go_wp2_with fail
          refine (at1 g9 _ _ _ _ C6.out).mono ?_; rintro e w' ⟨rfl, rfl⟩
          go_wp2_with fail
          go_ret
          exact ⟨rfl, K.out⟩

/-! ### THE ROW's STEP: WRITTEN OUT: LEAVE IT -/
set_option maxRecDepth 100000 in
theorem lifted (os : Os) (started : os.Started) (H : Type) (enc : TypeId × Value → H) :
    ReturnsInHanded {} Try.checked os 6 .any (Rows.belowNamesSpec.pre6 enc Try.prog Try.f6 Rows.belowNamesRow.domain false) (Rows.belowNamesSpec.post enc Try.prog Try.f6 false true false false) := by
  refine returnsInHanded_of_change (C := Try.checked) own started (by kernel_rfl) Try.func6
    (ChangeSpec.witness6 (enc := enc) (C := Try.checked) false ⟨#[], #[], []⟩ 8 (by kernel_rfl) (by kernel_rfl) (by kernel_rfl) (by kernel_rfl)) ?_
  intro W base args ds gs before hval0 hW hcnd _
  have hval : ∀ (j : Nat) t v, Try.f6.params[j]? = some t → args[j]? = some v → Value.okWide Try.prog W .any base t v := hval0
  have hW' := hW
  obtain ⟨p, q, hA0, hV, rfl, hfz, hnd⟩ := hW
  have hA : DataW.TrodAll enc Try.prog W 0 (fun _ => true) true Try.f6.params.toList args.toList ds p := hA0
  rw [Try.params6] at hA hval
  obtain ⟨rfl, rfl, rfl⟩ := trodAll_none hA
  obtain ⟨rfl, rfl⟩ := trodVars_none hV
  clear hA0 hval0
  simp only [List.append_nil] at hW'
  refine (walk  W).mono fun e W' ⟨he, hg⟩ => ?_
  subst he
  exact ⟨_, rfl, _, _, _, [], [], [], hW', (trodAll_cons_mk (shut_bool Try.underlying4 _) trodAll_mk0), rfl, rfl, hg.frame _, fun h => by cases h⟩

theorem over : Rows.belowNamesRow.holds Try.pinned (OpenSpec.ofChange Rows.belowNamesSpec) :=
  OpenClaim.holds_of_wide 6 Try.f6 rfl rfl rfl rfl rfl rfl rfl ⟨rfl, rfl, rfl, rfl, rfl⟩ rfl rfl rfl rfl rfl (by kernel_rfl) Try.func6 (by kernel_rfl)
    (of_decide_eq_true (by kernel_rfl)) (by unfold Func.isWrapper; first | (rw [if_pos (by decide +kernel)]; kernel_rfl) | (rw [if_neg (by decide +kernel)]; exact ⟨rfl, rfl⟩))
    (fun os started H enc _ => lifted os started H enc)

/-- ████ THE STATEMENT ████ -/
theorem proved : Rows.BelowNamesSaid :=
  over
#print axioms proved
end Go.Proofs.Ytelanfafgcnpmaa.belowNames
