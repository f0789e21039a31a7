/- The examples that every statement of layer 1 asks first: awake answers true. No arguments. -/
import Derived.Test.YthmncoonclcjcaaRefWord
namespace Go.Proofs.LW
open Go.RowKit
open Go.Proofs
set_option linter.unusedVariables false

abbrev top : Int := 18446744073709551615

theorem a1 (w : World) : Calls Try.prog 12 #[.int .u64 18446744073709551615, .int .u64 1, .int .u64 0] w fun e w' => e = .returned (.tuple #[.int .u64 0, .int .u64 1]) ∧ w = w' := W.add _ _ _ (by decide) (by decide) (by decide) (by decide) w
theorem a2 (w : World) : Calls Try.prog 14 #[.int .u64 0, .int .u64 1, .int .u64 0] w fun e w' => e = .returned (.tuple #[.int .u64 18446744073709551615, .int .u64 1]) ∧ w = w' := W.sub _ _ _ (by decide) (by decide) (by decide) (by decide) (by decide) w
theorem a3 (w : World) : Calls Try.prog 17 #[.int .u64 18446744073709551615, .int .u64 18446744073709551615] w fun e w' => e = .returned (.tuple #[.int .u64 18446744073709551614, .int .u64 1]) ∧ w = w' := W.mul _ _ (by decide) (by decide) (by decide) (by decide) w
theorem a4 (w : World) : Calls Try.prog 19 #[.int .u64 1, .int .u64 0, .int .u64 2] w fun e w' => e = .returned (.tuple #[.int .u64 9223372036854775808, .int .u64 0, .int .i64 0]) ∧ ∃ k, w.drewN k = w' := W.div_ok _ _ _ (by decide) (by decide) (by decide) (by decide) (by decide) w
theorem a5 (w : World) : Calls Try.prog 19 #[.int .u64 1, .int .u64 0, .int .u64 1] w fun e w' => e = .returned (.tuple #[.int .u64 0, .int .u64 0, .int .i64 5]) ∧ w = w' := W.div_long _ _ _ (by decide) (by decide) w
theorem a6 (w : World) : Calls Try.prog 19 #[.int .u64 1, .int .u64 0, .int .u64 0] w fun e w' => e = .returned (.tuple #[.int .u64 0, .int .u64 0, .int .i64 7]) ∧ w = w' := W.div_zero _ _ w
theorem a7 (w : World) : Calls Try.prog 21 #[.int .u64 3, .int .i64 63] w fun e w' => e = .returned (.tuple #[.int .u64 1, .int .u64 9223372036854775808, .int .i64 0]) ∧ ∃ k, w.drewN k = w' := W.shl_ok 3 63 (by decide) (by decide) (by decide) w
theorem a8 (w : World) : Calls Try.prog 23 #[.int .u64 1, .int .u64 9223372036854775808, .int .i64 63] w fun e w' => e = .returned (.tuple #[.int .u64 3, .int .i64 0]) ∧ ∃ k, w.drewN k = w' := W.shr_ok 1 9223372036854775808 63 (by decide) (by decide) (by decide) (by decide) (by decide) w
theorem a9 (w : World) : Calls Try.prog 21 #[.int .u64 1, .int .i64 65] w fun e w' => e = .returned (.tuple #[.int .u64 0, .int .u64 0, .int .i64 1]) ∧ w = w' := W.shl_no 1 65 (by decide) w
theorem b1 (w : World) : Calls Try.prog 25 #[.int .u64 0] w fun e w' => e = .returned (.int .i64 0) ∧ w = w' := W.len 0 (by decide) (by decide) w
theorem b2 (w : World) : Calls Try.prog 25 #[.int .u64 255] w fun e w' => e = .returned (.int .i64 8) ∧ w = w' := W.len 255 (by decide) (by decide) w
theorem b3 (w : World) : Calls Try.prog 25 #[.int .u64 256] w fun e w' => e = .returned (.int .i64 9) ∧ w = w' := W.len 256 (by decide) (by decide) w
theorem b4 (w : World) : Calls Try.prog 25 #[.int .u64 18446744073709551615] w fun e w' => e = .returned (.int .i64 64) ∧ w = w' := W.len 18446744073709551615 (by decide) (by decide) w

set_option maxHeartbeats 1000000 in
set_option maxRecDepth 100000 in
theorem awake (w : World) : Calls Try.prog 16 #[] w fun e w' => e = .returned (.bool true) ∧ ∃ k, w.drewN k = w' := by
  go_enter Try.func16, Try.ntmps16
  go_wp2_with fail
  refine (a1 _).mono ?_; rintro e w' ⟨rfl, rfl⟩
  go_wp2_with fail
  refine (a2 _).mono ?_; rintro e w' ⟨rfl, rfl⟩
  go_wp2_with fail
  refine (a3 _).mono ?_; rintro e w' ⟨rfl, rfl⟩
  go_wp2_with fail
  refine (a4 _).mono ?_; rintro e w' ⟨rfl, k4, rfl⟩
  go_wp2_with fail
  refine (a5 _).mono ?_; rintro e w' ⟨rfl, rfl⟩
  go_wp2_with fail
  refine (a6 _).mono ?_; rintro e w' ⟨rfl, rfl⟩
  go_wp2_with fail
  refine (a7 _).mono ?_; rintro e w' ⟨rfl, k7, rfl⟩
  go_wp2_with fail
  refine (a8 _).mono ?_; rintro e w' ⟨rfl, k8, rfl⟩
  go_wp2_with fail
  refine (a9 _).mono ?_; rintro e w' ⟨rfl, rfl⟩
  go_wp2_with fail
  refine (b1 _).mono ?_; rintro e w' ⟨rfl, rfl⟩
  go_wp2_with fail
  refine (b2 _).mono ?_; rintro e w' ⟨rfl, rfl⟩
  go_wp2_with fail
  refine (b3 _).mono ?_; rintro e w' ⟨rfl, rfl⟩
  go_wp2_with fail
  refine (b4 _).mono ?_; rintro e w' ⟨rfl, rfl⟩
  go_wp2_with fail
  go_ret
  exact ⟨rfl, _, rfl⟩
end Go.Proofs.LW
