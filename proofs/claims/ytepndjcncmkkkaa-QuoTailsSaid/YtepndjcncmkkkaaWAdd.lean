/- The contracts of word.Add and word.Sub: sums and differences of words, with what is carried. The arguments are words. -/
import Derived.Test.YtepndjcncmkkkaaProg
import Derived.Test.YtepndjcncmkkkaaWBase
namespace Go.Proofs.W
open Go.RowKit
set_option linter.unusedVariables false

theorem add64 (x y c : Int) (hx : 0 ≤ x) (hy : 0 ≤ y) (hc0 : 0 ≤ c) (hc : c ≤ 1) (w : World) : (callFunc 57 #[.int .u64 x, .int .u64 y, .int .u64 c]).run Try.prog w =
    .ok (.value (.tuple #[.int .u64 ((x + y + c) % 18446744073709551616), .int .u64 ((x + y + c) / 18446744073709551616)])) w := by
  rw [run_callFunc_extern Try.func57 (by kernel_rfl) (by kernel_rfl) (by kernel_rfl) (e := add64Entry) (by kernel_rfl), run_add64 x y c hx hy hc0 hc]
  rfl

theorem sub64 (x y b : Int) (hx : 0 ≤ x) (hy : 0 ≤ y) (hy' : y ≤ 18446744073709551615) (hb0 : 0 ≤ b) (hb : b ≤ 1) (w : World) : (callFunc 61 #[.int .u64 x, .int .u64 y, .int .u64 b]).run Try.prog w =
    .ok (.value (.tuple #[.int .u64 ((x - y - b) % 18446744073709551616), .int .u64 (bor x (y + b))])) w := by
  obtain ⟨x, rfl⟩ := Int.eq_ofNat_of_zero_le hx
  obtain ⟨y, rfl⟩ := Int.eq_ofNat_of_zero_le hy
  obtain ⟨b, rfl⟩ := Int.eq_ofNat_of_zero_le hb0
  have e1 : (((x + 18446744073709551616 - y - b) % 18446744073709551616 : Nat) : Int) = ((x : Int) - y - b) % 18446744073709551616 := by omega
  have e2 : ((if x < y + b then 1 else 0 : Nat) : Int) = bor x (y + b) := by unfold bor; split <;> split <;> omega
  rw [← e1, ← e2]
  rw [run_callFunc_extern Try.func61 (by kernel_rfl) (by kernel_rfl) (by kernel_rfl) (e := sub64Entry) (by kernel_rfl), run_sub64 x y b (by omega)]
  rfl

theorem one (c : Int) (_h0 : 0 ≤ c) (_h1 : c ≤ 18446744073709551615) (w : World) :
    Calls Try.prog 58 #[.int .u64 c] w fun e w' => e = .returned (.int .u64 (cry c)) ∧ w = w' := by
  go_enter Try.func58, Try.ntmps58
  go_wp2
  all_goals (go_ret; exact ⟨ret_int (by simp only [cry]; omega), rfl⟩)

theorem add (a b c : Int) (a0 : 0 ≤ a) (b0 : 0 ≤ b) (c0 : 0 ≤ c) (c1 : c ≤ 18446744073709551615) (w : World) :
    Calls Try.prog 45 #[.int .u64 a, .int .u64 b, .int .u64 c] w fun e w' =>
      e = .returned (.tuple #[.int .u64 ((a + b + cry c) % 18446744073709551616), .int .u64 ((a + b + cry c) / 18446744073709551616)]) ∧ w = w' := by
  have ⟨k0, k1⟩ := cry_le c c0
  go_enter Try.func45, Try.ntmps45
  go_wp2_with (first | (go_at_call 58; refine (one c c0 c1 _).mono ?_; rintro e w' ⟨rfl, rfl⟩) | simp only [add64 a b _ a0 b0 k0 k1])
  go_ret2
  exact ⟨rfl, rfl⟩

theorem sub (a b c : Int) (a0 : 0 ≤ a) (b0 : 0 ≤ b) (b1 : b ≤ 18446744073709551615) (c0 : 0 ≤ c) (c1 : c ≤ 18446744073709551615) (w : World) :
    Calls Try.prog 54 #[.int .u64 a, .int .u64 b, .int .u64 c] w fun e w' =>
      e = .returned (.tuple #[.int .u64 ((a - b - cry c) % 18446744073709551616), .int .u64 (bor a (b + cry c))]) ∧ w = w' := by
  have ⟨k0, k1⟩ := cry_le c c0
  go_enter Try.func54, Try.ntmps54
  go_wp2_with (first | (go_at_call 58; refine (one c c0 c1 _).mono ?_; rintro e w' ⟨rfl, rfl⟩) | simp only [sub64 a b _ a0 b0 b1 k0 k1])
  go_ret2
  exact ⟨rfl, rfl⟩

theorem add0 (a b : Int) (a0 : 0 ≤ a) (b0 : 0 ≤ b) (w : World) :
    Calls Try.prog 45 #[.int .u64 a, .int .u64 b, .int .u64 0] w fun e w' => e = .returned (.tuple #[.int .u64 ((a + b) % 18446744073709551616), .int .u64 ((a + b) / 18446744073709551616)]) ∧ w = w' := by
  have h := W.add a b 0 a0 b0 (by decide) (by decide) w
  rw [show W.cry 0 = 0 from rfl, Int.add_zero] at h
  exact h
end Go.Proofs.W
