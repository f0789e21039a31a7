/- The contracts of math-bits Div64 and of word.Div: the quotient of two words by one. The arguments are words. -/
import Derived.Test.YtepndjcncmkkkaaProg
import Derived.Test.YtepndjcncmkkkaaWBase
namespace Go.Proofs.W
open Go.RowKit
set_option linter.unusedVariables false

set_option maxHeartbeats 4000000 in
set_option maxRecDepth 100000 in
theorem len64 (x : Int) (h0 : 0 ≤ x) (h1 : x ≤ 18446744073709551615) (w : World) :
    Calls Try.prog 63 #[.int .u64 x] w fun e w' => e = .returned (.int .i64 (bitLen x.toNat)) ∧ w = w' := by
  go_enter Try.func63, Try.ntmps63
  go_wp2
  all_goals (go_ret; refine ⟨ret_int ?_, rfl⟩; simp only [len8tab_get])
  · exact len_way x.toNat 72057594037927936 56 56 (by decide) (by omega) (by omega) (by omega) _ (by omega) rfl
  · exact len_way x.toNat 281474976710656 48 48 (by decide) (by omega) (by omega) (by omega) _ (by omega) rfl
  · exact len_way x.toNat 1099511627776 40 40 (by decide) (by omega) (by omega) (by omega) _ (by omega) rfl
  · exact len_way x.toNat 4294967296 32 32 (by decide) (by omega) (by omega) (by omega) _ (by omega) rfl
  · exact len_way x.toNat 16777216 24 24 (by decide) (by omega) (by omega) (by omega) _ (by omega) rfl
  · exact len_way x.toNat 65536 16 16 (by decide) (by omega) (by omega) (by omega) _ (by omega) rfl
  · exact len_way x.toNat 256 8 8 (by decide) (by omega) (by omega) (by omega) _ (by omega) rfl
  · exact len_way0 x.toNat _ (by omega) rfl

theorem lead64 (y : Int) (h0 : 0 ≤ y) (h1 : y ≤ 18446744073709551615) (w : World) :
    Calls Try.prog 62 #[.int .u64 y] w fun e w' => e = .returned (.int .i64 ((64 - bitLen y.toNat : Nat) : Int)) ∧ w = w' := by
  have hl := bitLen_64 y.toNat (by omega)
  go_enter Try.func62, Try.ntmps62
  go_wp2_with (go_at_call 63; refine (len64 y h0 h1 _).mono ?_; rintro e w' ⟨rfl, rfl⟩)
  go_ret
  exact ⟨ret_int (by omega), rfl⟩
set_option maxRecDepth 100000 in
set_option maxHeartbeats 400000 in
theorem div64_pos (a b y : Int) (a0 : 1 ≤ a) (b0 : 0 ≤ b) (b1 : b ≤ 18446744073709551615) (ay : a < y) (y1 : y ≤ 18446744073709551615) (w : World) (n : Nat) (hn : Hid (64 - bitLen y.toNat = n))
    (Y yn1 yn0 U L un1 un0 : Int) (H : Norm a b y n Y yn1 yn0 U L un1 un0) :
    Calls Try.prog 60 #[.int .u64 a, .int .u64 b, .int .u64 y] w fun e w' => e = .returned (.tuple #[.int .u64 ((a * 18446744073709551616 + b) / y), .int .u64 ((a * 18446744073709551616 + b) % y)]) ∧ w = w' := by
  have hn1 := H.n1
  have c1 := H.h1.b0
  have c2 := H.h1.b1
  have c3 := H.h1.u0
  have c4 := H.h1.u1
  have c5 := H.h1.Ylt
  have c6 := H.h1.v0
  have c7 := H.h1.v1
  have c8 := H.h1.a0
  have c9 := H.h1.a1
  go_enter Try.func60, Try.ntmps60
  go_wp2_with fail
  refine (lead64 _ (by omega) (by omega) _).mono ?_; rintro e w' ⟨rfl, rfl⟩; rw [hn.out]
  go_upto_region 14 with fail
  go_cut [2, 9, 10, 11, 13, 14] (fun s2 s9 s10 s11 s13 s14 wx => s2 = .int .u64 Y ∧ s9 = .int .u64 yn1 ∧ s10 = .int .u64 yn0 ∧ s11 = .int .u64 U ∧ s13 = .int .u64 un1 ∧ s14 = .int .u64 un0 ∧ w = wx)
  case first =>
    go_wp2
    go_meet
    simp only [H.ey, H.ey1, H.ey0, H.eu, H.el, H.eu1, H.eu0]
    simp
  case rest =>
    obtain ⟨rfl, rfl, rfl, rfl, rfl, rfl, rfl⟩ := hcut
    go_upto_block 0 with (fail)
    go_cut [15, 16] (fun s15 s16 wx => s15 = .int .u64 ((U * 4294967296 + un1) / Y) ∧ w = wx)
    case first =>
      have k0 := DivPure.HL.start H.h1
      go_wp2
      go_loop [15, 16] (fun s15 s16 => ∃ q r : Int, s15 = .int .u64 q ∧ s16 = .int .u64 r ∧ DivPure.HL Y yn1 U un1 q r) (fun s15 _ => (intOf s15).toNat)
      case atStart => exact ⟨_, _, rfl, by rw [IntKind.wrap_u64, IntKind.wrap_u64], k0⟩
      case round =>
        obtain ⟨q, r, rfl, rfl, k⟩ := hrel
        have d1 := k.q0
        have d2 := k.q1
        have d3 := k.r0
        have d4 := k.r1
        have ⟨d5, d6⟩ := k.test H.h1
        by_cases t1 : 4294967296 ≤ q
        · by_cases t2 : 4294967296 ≤ r + yn1
          · have hs := Lib.hid (k.stop H.h1 (.inl t1) t2)
            go_wp2
            go_meet
            simp [hs.out]
          · have hx := Lib.hid (k.next H.h1 (.inl t1) (by omega))
            go_wp2
            go_round
            case rel => exact ⟨_, _, rfl, rfl, hx.out⟩
            case measure => simp [intOf]; omega
        · by_cases t3 : 4294967296 * r + un1 < q * yn0
          · have p1 := Lib.hid (k.down H.h1 (.inr t3)).2.2.1
            have p2 : 1 ≤ q := by have := p1.out; omega
            by_cases t2 : 4294967296 ≤ r + yn1
            · have hs := Lib.hid (k.stop H.h1 (.inr t3) t2)
              go_wp2
              go_meet
              simp [hs.out]
            · have hx := Lib.hid (k.next H.h1 (.inr t3) (by omega))
              go_wp2
              go_round
              case rel => exact ⟨_, _, rfl, rfl, hx.out⟩
              case measure => simp [intOf]; omega
          · have hs := Lib.hid (k.done H.h1 (by omega))
            go_wp2
            go_meet
            simp [hs.out]
    case rest =>
      obtain ⟨rfl, rfl⟩ := hcut
      have f2 := H.h1.second un0 H.v0 H.v1
      have f3 := Lib.hid (DivPure.un21 H.h1)
      have g1 := f2.u0
      have g2 := f2.u1
      have g3 := f2.v0
      have g4 := f2.v1
      have q0 := H.h1.Qnn
      have q1 := H.h1.Qlt
      have q2 := f2.Qnn
      have q3 := f2.Qlt
      have e1 := Lib.hid (DivPure.whole Y U un1 un0 H.h1.Ypos)
      have eq := Lib.hid H.q
      have er := Lib.hid H.r
      have f4 := Lib.hid (DivPure.un21 f2)
      go_upto_region 21 with fail
      go_cut [15, 17] (fun s15 s17 wx => s15 = .int .u64 ((U * 4294967296 + un1) / Y) ∧ s17 = .int .u64 ((U * 4294967296 + un1) % Y) ∧ w = wx)
      case first =>
        go_wp2
        go_meet
        rw [IntKind.wrap_u64, IntKind.wrap_u64, IntKind.wrap_u64, IntKind.wrap_u64, f3.out]
        simp
      case rest =>
      obtain ⟨rfl, rfl, rfl⟩ := hcut
      obtain ⟨V, hV⟩ : ∃ V, (U * 4294967296 + un1) % Y = V := ⟨_, rfl⟩
      obtain ⟨Q, hQ⟩ : ∃ V, (U * 4294967296 + un1) / Y = V := ⟨_, rfl⟩
      rw [hV] at f2 e1 f4 g1 g2 q2 q3 ⊢
      rw [hQ] at e1 q0 q1 ⊢
      have HV := Lib.hid hV
      have HQ := Lib.hid hQ
      clear hV hQ
      go_upto_block 2 with (fail)
      go_cut [16, 18] (fun s16 s18 wx => s18 = .int .u64 ((V * 4294967296 + un0) / Y) ∧ w = wx)
      case first =>
        have k0 := Lib.hid (DivPure.HL.start f2)
        go_wp2
        go_loop [18, 16] (fun s15 s16 => ∃ q r : Int, s15 = .int .u64 q ∧ s16 = .int .u64 r ∧ DivPure.HL Y yn1 V un0 q r) (fun s15 _ => (intOf s15).toNat)
        case atStart => exact ⟨_, _, rfl, by rw [IntKind.wrap_u64, IntKind.wrap_u64], k0.out⟩
        case round =>
        obtain ⟨q, r, rfl, rfl, k⟩ := hrel
        have d1 := k.q0
        have d2 := k.q1
        have d3 := k.r0
        have d4 := k.r1
        have ⟨d5, d6⟩ := k.test f2
        by_cases t1 : 4294967296 ≤ q
        · by_cases t2 : 4294967296 ≤ r + yn1
          · have hs := Lib.hid (k.stop f2 (.inl t1) t2)
            go_wp2
            go_meet
            simp [hs.out]
          · have hx := Lib.hid (k.next f2 (.inl t1) (by omega))
            go_wp2
            go_round
            case rel => exact ⟨_, _, rfl, rfl, hx.out⟩
            case measure => simp [intOf]; omega
        · by_cases t3 : 4294967296 * r + un0 < q * yn0
          · have p1 := Lib.hid (k.down f2 (.inr t3)).2.2.1
            have p2 : 1 ≤ q := by have := p1.out; omega
            by_cases t2 : 4294967296 ≤ r + yn1
            · have hs := Lib.hid (k.stop f2 (.inr t3) t2)
              go_wp2
              go_meet
              simp [hs.out]
            · have hx := Lib.hid (k.next f2 (.inr t3) (by omega))
              go_wp2
              go_round
              case rel => exact ⟨_, _, rfl, rfl, hx.out⟩
              case measure => simp [intOf]; omega
          · have hs := Lib.hid (k.done f2 (by omega))
            go_wp2
            go_meet
            simp [hs.out]
      case rest =>
        obtain ⟨rfl, rfl⟩ := hcut
        obtain ⟨R, hR⟩ : ∃ T, (V * 4294967296 + un0) / Y = T := ⟨_, rfl⟩
        rw [hR] at e1 q2 q3 f4 ⊢
        clear hR
        go_wp2
        go_ret2
        refine ⟨?_, rfl⟩
        rw [IntKind.wrap_u64, IntKind.wrap_u64, IntKind.wrap_u64, IntKind.wrap_u64, f4.out, e1.out.2, ← eq.out, er.out, e1.out.1]
        rfl

theorem div64_zero (b y : Int) (b0 : 0 ≤ b) (b1 : b ≤ 18446744073709551615) (ay : 0 < y) (y1 : y ≤ 18446744073709551615) (w : World) :
    Calls Try.prog 60 #[.int .u64 0, .int .u64 b, .int .u64 y] w fun e w' => e = .returned (.tuple #[.int .u64 (b / y), .int .u64 (b % y)]) ∧ ∃ n, w.drewN n = w' := by
  go_enter Try.func60, Try.ntmps60
  go_wp2_with fail
  go_quiet (fail)
  go_wp2
  go_ret2
  exact ⟨rfl, _, rfl⟩
/-- math-bits Div64, as a whole -/
theorem div64 (a b y : Int) (a0 : 0 ≤ a) (b0 : 0 ≤ b) (b1 : b ≤ 18446744073709551615) (ay : a < y) (y1 : y ≤ 18446744073709551615) (w : World) :
    Calls Try.prog 60 #[.int .u64 a, .int .u64 b, .int .u64 y] w fun e w' => e = .returned (.tuple #[.int .u64 ((a * 18446744073709551616 + b) / y), .int .u64 ((a * 18446744073709551616 + b) % y)]) ∧ ∃ k, w.drewN k = w' := by
  by_cases h : a = 0
  · subst h
    simpa using div64_zero b y b0 b1 (by omega) y1 w
  · obtain ⟨n, hn, Y, yn1, yn0, U, L, un1, un0, H⟩ := norm a.toNat b.toNat y.toNat (by omega) (by omega) (by omega)
    rw [Int.toNat_of_nonneg a0, Int.toNat_of_nonneg b0, Int.toNat_of_nonneg (by omega)] at H
    refine (div64_pos a b y (by omega) b0 b1 ay y1 w n hn Y yn1 yn0 U L un1 un0 H).mono ?_
    rintro e w' ⟨rfl, rfl⟩
    exact ⟨rfl, 0, rfl⟩
theorem div_zero (a b : Int) (w : World) :
    Calls Try.prog 53 #[.int .u64 a, .int .u64 b, .int .u64 0] w fun e w' => e = .returned (.tuple #[.int .u64 0, .int .u64 0, .int .i64 7]) ∧ w = w' := by
  go_enter Try.func53, Try.ntmps53
  go_wp2
  go_ret3
  exact ⟨rfl, rfl⟩
theorem div_long (a b d : Int) (d0 : 0 < d) (h : d ≤ a) (w : World) :
    Calls Try.prog 53 #[.int .u64 a, .int .u64 b, .int .u64 d] w fun e w' => e = .returned (.tuple #[.int .u64 0, .int .u64 0, .int .i64 5]) ∧ w = w' := by
  have h0 : (d == 0) = false := beq_eq_false_iff_ne.2 (by omega)
  go_enter Try.func53, Try.ntmps53
  go_wp2
  go_ret3
  exact ⟨rfl, rfl⟩
theorem div_ok (a b d : Int) (a0 : 0 ≤ a) (b0 : 0 ≤ b) (b1 : b ≤ 18446744073709551615) (h : a < d) (d1 : d ≤ 18446744073709551615) (w : World) :
    Calls Try.prog 53 #[.int .u64 a, .int .u64 b, .int .u64 d] w fun e w' => e = .returned (.tuple #[.int .u64 ((a * 18446744073709551616 + b) / d), .int .u64 ((a * 18446744073709551616 + b) % d), .int .i64 0]) ∧ ∃ k, w.drewN k = w' := by
  have h0 : (d == 0) = false := beq_eq_false_iff_ne.2 (by omega)
  go_enter Try.func53, Try.ntmps53
  go_wp2_with (go_at_call 60; refine (div64 a b d a0 b0 b1 h d1 _).mono ?_; rintro e w' ⟨rfl, k, rfl⟩)
  go_ret3
  exact ⟨rfl, _, rfl⟩
end Go.Proofs.W
