/- The statement WordNames: the examples, words and shifts at their ends, and each error in its row. No arguments. -/
import Derived.Test.YthmncoonclcjcaaRows
import Derived.WalkKit
import Derived.ProofKit
import Derived.OpenShut
import Derived.Test.YthmncoonclcjcaaWordAwake
import Derived.ShutString
namespace Go.Proofs.Ythmncoonclcjcaa.wordNames
open Go.ChangeShapes Go.WideShapes Go.ChangeAt Go.RowKit
open Go.Proofs
open Go.ChangeMaps (open_string shut_string)
set_option linter.unusedVariables false      -- a walk need not use every 'w<i>' (that an integer argument fits its kind)

theorem own : ownKnob Try.prog.godebug = none := by kernel_rfl

theorem r0 (w : World) : Calls Try.prog 12 #[.int .u64 0, .int .u64 0, .int .u64 0] w fun e w' => e = .returned (.tuple #[.int .u64 0, .int .u64 0]) ∧ w = w' := W.add _ _ _ (by decide) (by decide) (by decide) (by decide) w
theorem r1 (w : World) : Calls Try.prog 12 #[.int .u64 0, .int .u64 0, .int .u64 8] w fun e w' => e = .returned (.tuple #[.int .u64 1, .int .u64 0]) ∧ w = w' := W.add _ _ _ (by decide) (by decide) (by decide) (by decide) w
theorem r2 (w : World) : Calls Try.prog 12 #[.int .u64 18446744073709551615, .int .u64 0, .int .u64 1] w fun e w' => e = .returned (.tuple #[.int .u64 0, .int .u64 1]) ∧ w = w' := W.add _ _ _ (by decide) (by decide) (by decide) (by decide) w
theorem r3 (w : World) : Calls Try.prog 12 #[.int .u64 18446744073709551615, .int .u64 18446744073709551615, .int .u64 0] w fun e w' => e = .returned (.tuple #[.int .u64 18446744073709551614, .int .u64 1]) ∧ w = w' := W.add _ _ _ (by decide) (by decide) (by decide) (by decide) w
theorem r4 (w : World) : Calls Try.prog 12 #[.int .u64 18446744073709551615, .int .u64 18446744073709551615, .int .u64 1] w fun e w' => e = .returned (.tuple #[.int .u64 18446744073709551615, .int .u64 1]) ∧ w = w' := W.add _ _ _ (by decide) (by decide) (by decide) (by decide) w
theorem r5 (w : World) : Calls Try.prog 12 #[.int .u64 9223372036854775808, .int .u64 9223372036854775808, .int .u64 0] w fun e w' => e = .returned (.tuple #[.int .u64 0, .int .u64 1]) ∧ w = w' := W.add _ _ _ (by decide) (by decide) (by decide) (by decide) w
theorem r6 (w : World) : Calls Try.prog 12 #[.int .u64 4294967295, .int .u64 1, .int .u64 0] w fun e w' => e = .returned (.tuple #[.int .u64 4294967296, .int .u64 0]) ∧ w = w' := W.add _ _ _ (by decide) (by decide) (by decide) (by decide) w
theorem t0 (w : World) : Calls Try.prog 14 #[.int .u64 0, .int .u64 0, .int .u64 0] w fun e w' => e = .returned (.tuple #[.int .u64 0, .int .u64 0]) ∧ w = w' := W.sub _ _ _ (by decide) (by decide) (by decide) (by decide) (by decide) w
theorem t1 (w : World) : Calls Try.prog 14 #[.int .u64 0, .int .u64 0, .int .u64 1] w fun e w' => e = .returned (.tuple #[.int .u64 18446744073709551615, .int .u64 1]) ∧ w = w' := W.sub _ _ _ (by decide) (by decide) (by decide) (by decide) (by decide) w
theorem t2 (w : World) : Calls Try.prog 14 #[.int .u64 0, .int .u64 18446744073709551615, .int .u64 1] w fun e w' => e = .returned (.tuple #[.int .u64 0, .int .u64 1]) ∧ w = w' := W.sub _ _ _ (by decide) (by decide) (by decide) (by decide) (by decide) w
theorem t3 (w : World) : Calls Try.prog 14 #[.int .u64 18446744073709551615, .int .u64 18446744073709551615, .int .u64 0] w fun e w' => e = .returned (.tuple #[.int .u64 0, .int .u64 0]) ∧ w = w' := W.sub _ _ _ (by decide) (by decide) (by decide) (by decide) (by decide) w
theorem t4 (w : World) : Calls Try.prog 14 #[.int .u64 18446744073709551615, .int .u64 18446744073709551615, .int .u64 6] w fun e w' => e = .returned (.tuple #[.int .u64 18446744073709551615, .int .u64 1]) ∧ w = w' := W.sub _ _ _ (by decide) (by decide) (by decide) (by decide) (by decide) w
theorem t5 (w : World) : Calls Try.prog 14 #[.int .u64 4294967296, .int .u64 1, .int .u64 0] w fun e w' => e = .returned (.tuple #[.int .u64 4294967295, .int .u64 0]) ∧ w = w' := W.sub _ _ _ (by decide) (by decide) (by decide) (by decide) (by decide) w
theorem gdrewN {W w : World} (h : Grown W w) (n : Nat) : Grown W (w.drewN n) := h
theorem q1 (w : World) : Calls Try.prog 19 #[.int .u64 18446744073709551614, .int .u64 18446744073709551615, .int .u64 18446744073709551615] w fun e w' => e = .returned (.tuple #[.int .u64 18446744073709551615, .int .u64 18446744073709551614, .int .i64 0]) ∧ ∃ k, w.drewN k = w' := W.div_ok _ _ _ (by decide) (by decide) (by decide) (by decide) (by decide) w
theorem q2 (w : World) : Calls Try.prog 19 #[.int .u64 18446744073709551615, .int .u64 0, .int .u64 18446744073709551615] w fun e w' => e = .returned (.tuple #[.int .u64 0, .int .u64 0, .int .i64 5]) ∧ w = w' := W.div_long _ _ _ (by decide) (by decide) w
theorem q4 (w : World) : Calls Try.prog 21 #[.int .u64 18446744073709551615, .int .i64 64] w fun e w' => e = .returned (.tuple #[.int .u64 18446744073709551615, .int .u64 0, .int .i64 0]) ∧ ∃ k, w.drewN k = w' := W.shl_ok 18446744073709551615 64 (by decide) (by decide) (by decide) w
theorem q5 (w : World) : Calls Try.prog 21 #[.int .u64 18446744073709551615, .int .i64 0] w fun e w' => e = .returned (.tuple #[.int .u64 0, .int .u64 18446744073709551615, .int .i64 0]) ∧ ∃ k, w.drewN k = w' := W.shl_ok 18446744073709551615 0 (by decide) (by decide) (by decide) w
theorem q6 (w : World) : Calls Try.prog 23 #[.int .u64 18446744073709551615, .int .u64 0, .int .i64 64] w fun e w' => e = .returned (.tuple #[.int .u64 18446744073709551615, .int .i64 0]) ∧ ∃ k, w.drewN k = w' := W.shr_ok 18446744073709551615 0 64 (by decide) (by decide) (by decide) (by decide) (by decide) w
theorem q7 (w : World) : Calls Try.prog 23 #[.int .u64 1, .int .u64 0, .int .i64 1] w fun e w' => e = .returned (.tuple #[.int .u64 9223372036854775808, .int .i64 0]) ∧ ∃ k, w.drewN k = w' := W.shr_ok 1 0 1 (by decide) (by decide) (by decide) (by decide) (by decide) w
theorem log_two (n : Nat) : bitLen (2 ^ n) = n + 1 := by
  have : 2 ^ n ≠ 0 := by have := Nat.two_pow_pos n; omega
  unfold bitLen; rw [if_neg this, Nat.log2_two_pow]
theorem log_less (n : Nat) : bitLen (2 ^ n - 1) = n := by
  obtain ⟨h1, h2⟩ := bitLen_spec (2 ^ n - 1)
  have p := Nat.two_pow_pos n
  have u : 2 ^ n ≤ 2 ^ bitLen (2 ^ n - 1) := by omega
  have u := (Nat.pow_le_pow_iff_right (by decide : 1 < 2)).1 u
  by_cases hz : 2 ^ n - 1 = 0
  · have : n = 0 := by
      rcases Nat.eq_zero_or_pos n with h | h
      · exact h
      · have := Nat.pow_le_pow_right (n := 2) (by decide) h; omega
    subst this; rfl
  · have h2 := h2 hz
    have v : 2 ^ (bitLen (2 ^ n - 1) - 1) < 2 ^ n := by omega
    have v := (Nat.pow_lt_pow_iff_right (by decide : 1 < 2)).1 v
    omega
theorem pw (n : Nat) (h : n < 64) : 2 ^ n * 2 ≤ 18446744073709551616 := by
  rw [← Nat.pow_succ]; exact Nat.pow_le_pow_right (n := 2) (by decide) (show n + 1 ≤ 64 by omega)
theorem p1 (n : Nat) (h : n < 64) (w : World) : Calls Try.prog 25 #[.int .u64 (IntKind.u64.wrap (2 ^ n))] w fun e w' => e = .returned (.int .i64 ((n : Int) + 1)) ∧ w = w' := by
  have hp := pw n h
  rw [W.pow_cast, W.wrapN _ (by omega)]
  have k := W.len ((2 ^ n : Nat) : Int) (by omega) (by omega) w
  rw [Int.toNat_natCast, log_two] at k
  exact k
theorem p2 (n : Nat) (h : n < 64) (w : World) : Calls Try.prog 25 #[.int .u64 (IntKind.u64.wrap (IntKind.u64.wrap (2 ^ n) - 1))] w fun e w' => e = .returned (.int .i64 (n : Int)) ∧ w = w' := by
  have hp := pw n h
  have h0 := Nat.two_pow_pos n
  rw [W.pow_cast, W.wrapN _ (by omega), show ((2 ^ n : Nat) : Int) - 1 = ((2 ^ n - 1 : Nat) : Int) by omega, W.wrapN _ (by omega)]
  have k := W.len ((2 ^ n - 1 : Nat) : Int) (by omega) (by omega) w
  rw [Int.toNat_natCast, log_less] at k
  exact k

/-! ### STEP 1: THE WALK: the Go text returns true. 'Grown w w'': the world has at most new blocks (Derived/RowKit3.lean). Part the cases AHEAD of 'go_enter' where a test parts the walk; take each callee by a contract of your own. -/
set_option maxHeartbeats 4000000 in
set_option maxRecDepth 100000 in
theorem walk (w : World) :
    Calls Try.prog 6 #[] w fun e w' => e = .returned (.bool true) ∧ Grown w w' := by
  go_enter Try.func6, Try.ntmps6
  go_wp2_with fail
  refine (LW.awake _).mono ?_; rintro e w1 ⟨rfl, hg⟩
  have HG := Lib.hid hg
  clear hg
  go_wp2_with fail
  refine wp_loop_rounds 8 ?_
  rw [rounds_succ]
  go_wp2_with fail
  refine (r0 _).mono ?_; rintro e w' ⟨rfl, rfl⟩
  go_wp2_with fail
  rw [rounds_succ]
  go_wp2_with fail
  refine (r1 _).mono ?_; rintro e w' ⟨rfl, rfl⟩
  go_wp2_with fail
  rw [rounds_succ]
  go_wp2_with fail
  refine (r2 _).mono ?_; rintro e w' ⟨rfl, rfl⟩
  go_wp2_with fail
  rw [rounds_succ]
  go_wp2_with fail
  refine (r3 _).mono ?_; rintro e w' ⟨rfl, rfl⟩
  go_wp2_with fail
  rw [rounds_succ]
  go_wp2_with fail
  refine (r4 _).mono ?_; rintro e w' ⟨rfl, rfl⟩
  go_wp2_with fail
  rw [rounds_succ]
  go_wp2_with fail
  refine (r5 _).mono ?_; rintro e w' ⟨rfl, rfl⟩
  go_wp2_with fail
  rw [rounds_succ]
  go_wp2_with fail
  refine (r6 _).mono ?_; rintro e w' ⟨rfl, rfl⟩
  go_wp2_with fail
  rw [rounds_succ]
  go_wp2_with fail
  refine wp_loop_rounds 7 ?_
  rw [rounds_succ]
  go_wp2_with fail
  refine (t0 _).mono ?_; rintro e w' ⟨rfl, rfl⟩
  go_wp2_with fail
  rw [rounds_succ]
  go_wp2_with fail
  refine (t1 _).mono ?_; rintro e w' ⟨rfl, rfl⟩
  go_wp2_with fail
  rw [rounds_succ]
  go_wp2_with fail
  refine (t2 _).mono ?_; rintro e w' ⟨rfl, rfl⟩
  go_wp2_with fail
  rw [rounds_succ]
  go_wp2_with fail
  refine (t3 _).mono ?_; rintro e w' ⟨rfl, rfl⟩
  go_wp2_with fail
  rw [rounds_succ]
  go_wp2_with fail
  refine (t4 _).mono ?_; rintro e w' ⟨rfl, rfl⟩
  go_wp2_with fail
  rw [rounds_succ]
  go_wp2_with fail
  refine (t5 _).mono ?_; rintro e w' ⟨rfl, rfl⟩
  go_wp2_with fail
  rw [rounds_succ]
  go_wp2_with fail
  go_loop [9] (fun s => ∃ n : Nat, n ≤ 64 ∧ s = .int .i64 n) (fun s => 64 - (intOf s).toNat)
  case atStart => exact ⟨0, by omega, rfl⟩
  case round =>
    obtain ⟨n, hn, rfl⟩ := hrel
    by_cases hlt : n < 64
    · go_wp2_with fail
      refine (p1 n hlt _).mono ?_; rintro e w' ⟨rfl, rfl⟩
      go_wp2_with fail
      refine (p2 n hlt _).mono ?_; rintro e w' ⟨rfl, rfl⟩
      go_wp2_with fail
      go_round
      case rel => exact ⟨n + 1, by omega, by go_num⟩
      case measure => simp [intOf]; omega
    · go_wp2_with fail
      refine (q1 _).mono ?_; rintro e w' ⟨rfl, _, rfl⟩
      go_wp2_with fail
      refine (q2 _).mono ?_; rintro e w' ⟨rfl, rfl⟩
      go_wp2_with fail
      refine (W.div_zero _ _ _).mono ?_; rintro e w' ⟨rfl, rfl⟩
      go_wp2_with fail
      refine (q4 _).mono ?_; rintro e w' ⟨rfl, _, rfl⟩
      go_wp2_with fail
      refine (q5 _).mono ?_; rintro e w' ⟨rfl, _, rfl⟩
      go_wp2_with fail
      refine (q6 _).mono ?_; rintro e w' ⟨rfl, _, rfl⟩
      go_wp2_with fail
      refine (q7 _).mono ?_; rintro e w' ⟨rfl, _, rfl⟩
      go_wp2_with fail
      refine (W.shl_no _ _ (by decide) _).mono ?_; rintro e w' ⟨rfl, rfl⟩
      go_wp2_with fail
      refine (W.shr_no _ _ _ (by decide) _).mono ?_; rintro e w' ⟨rfl, rfl⟩
      go_wp2_with fail
      refine (W.shr_no _ _ _ (by decide) _).mono ?_; rintro e w' ⟨rfl, rfl⟩
      go_wp2_with fail
      go_ret
      obtain ⟨k, rfl⟩ := HG.out
      refine ⟨rfl, ?_⟩
      repeat (first | with_reducible refine Grown.alloc ?_ _ _ | with_reducible refine gdrewN ?_ _ | with_reducible exact Grown.refl _)

/-! ### THE ROW's STEP: WRITTEN OUT: LEAVE IT -/
set_option maxRecDepth 100000 in
theorem lifted (os : Os) (started : os.Started) (H : Type) (enc : TypeId × Value → H) :
    ReturnsInHanded {} Try.checked os 6 .any (Rows.wordNamesSpec.pre6 enc Try.prog Try.f6 Rows.wordNamesRow.domain false) (Rows.wordNamesSpec.post enc Try.prog Try.f6 false true false false) := by
  refine returnsInHanded_of_change (C := Try.checked) own started (by kernel_rfl) Try.func6
    (ChangeSpec.witness6 (enc := enc) (C := Try.checked) false ⟨#[], #[], []⟩ 8 (by kernel_rfl) (by kernel_rfl) (by kernel_rfl) (by kernel_rfl)) ?_
  intro W base args ds gs before hval0 hW hcnd _
  have hval : ∀ (j : Nat) t v, Try.f6.params[j]? = some t → args[j]? = some v → Value.okWide Try.prog W .any base t v := hval0
  have hW' := hW
  obtain ⟨p, q, hA0, hV, rfl, hfz, hnd⟩ := hW
  have hA : DataW.TrodAll enc Try.prog W 0 (fun _ => true) true Try.f6.params.toList args.toList ds p := hA0
  rw [Try.params6] at hA hval
  obtain ⟨rfl, rfl, rfl⟩ := trodAll_none hA
  obtain ⟨rfl, rfl⟩ := trodVars_none hV
  clear hA0 hval0
  simp only [List.append_nil] at hW'
  refine (walk  W).mono fun e W' ⟨he, hg⟩ => ?_
  subst he
  exact ⟨_, rfl, post_of_same (pa := []) (pv := []) hW' (fun _ _ _ => (trodAll_cons_mk (shut_bool Try.underlying4 _) trodAll_mk0)) (fun sp _ => rfl) (fun _ _ => rfl) rfl
    (hg.frame _) hg.2.1 (ok_one (by kernel_rfl) rfl (okWide_bool_mk Try.underlying4 _))⟩

theorem over : Rows.wordNamesRow.holds Try.pinned (OpenSpec.ofChange Rows.wordNamesSpec) :=
  OpenClaim.holds_of_wide 6 Try.f6 rfl rfl rfl rfl rfl rfl rfl ⟨rfl, rfl, rfl, rfl, rfl⟩ rfl rfl rfl rfl rfl (by kernel_rfl) Try.func6 (by kernel_rfl)
    (of_decide_eq_true (by kernel_rfl)) (by unfold Func.isWrapper; first | (rw [if_pos (by decide +kernel)]; kernel_rfl) | (rw [if_neg (by decide +kernel)]; exact ⟨rfl, rfl⟩))
    (fun os started H enc _ => lifted os started H enc)

/-- ████ THE STATEMENT ████ -/
theorem proved : Rows.WordNamesSaid :=
  over
#print axioms proved
end Go.Proofs.Ythmncoonclcjcaa.wordNames
