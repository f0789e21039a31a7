/- Strings of bits: the program's Number. -/
import Derived.Test.YtelanfafgcnpmaaBitsF
import Derived.Test.YtelanfafgcnpmaaMW
namespace Go.Proofs.BT
open Go.RowKit
open Go.Proofs
open Go
set_option linter.unusedVariables false
set_option linter.unusedSimpArgs false
theorem or0 (n : Nat) (h : n < 9223372036854775808) : Go.bits BinOp.or IntKind.u64 ((n : Int) * 2) (IntKind.u64.wrap (Go.bits BinOp.and IntKind.u8 48 1)) = ((2 * n : Nat) : Int) := by
  have e : IntKind.u64.wrap (Go.bits BinOp.and IntKind.u8 48 1) = ((0 : Nat) : Int) := by decide +kernel
  have j := W.u64_or_join n 0 1 (by decide) (by omega)
  rw [e, show (n : Int) * 2 = ((n * 2 ^ 1 : Nat) : Int) by simp, j]
  congr 1; omega
theorem or1 (n : Nat) (h : n < 9223372036854775808) : Go.bits BinOp.or IntKind.u64 ((n : Int) * 2) (IntKind.u64.wrap (Go.bits BinOp.and IntKind.u8 49 1)) = ((2 * n + 1 : Nat) : Int) := by
  have e : IntKind.u64.wrap (Go.bits BinOp.and IntKind.u8 49 1) = ((1 : Nat) : Int) := by decide +kernel
  have j := W.u64_or_join n 1 1 (by decide) (by omega)
  rw [e, show (n : Int) * 2 = ((n * 2 ^ 1 : Nat) : Int) by simp, j]
  congr 1; omega
theorem num1 (s : ByteArray) (w : World) (hs : s.size ≤ 64) (hb : isB s = true) (z : Nat) (hz : z = numB s s.size) :
    Calls Try.prog 26 #[.string s] w fun e w' => e = .returned (.tuple #[.int .u64 (z : Int), .int .i64 0]) ∧ w = w' := by
  have H1 := Lib.hid (is1 s w (by omega) true hb.symm)
  have HB := Lib.hid (isB_bits hb)
  have HZ := Lib.hid hz
  clear hb hz
  go_enter Try.func26, Try.ntmps26
  go_wp2_with fail
  refine H1.out.mono ?_; rintro e w' ⟨rfl, rfl⟩
  go_wp2_with fail
  go_loop [4, 16] (fun a b => ∃ i n : Nat, a = .int .u64 n ∧ b = .int .i64 i ∧ i ≤ s.size ∧ Hid (n = numB s i)) (fun _ v => s.size - (intOf v).toNat)
  case atStart => exact ⟨0, 0, rfl, rfl, by omega, rfl⟩
  case round =>
    obtain ⟨i, n, rfl, rfl, hi, HN⟩ := hrel
    by_cases hlt : i < s.size
    · have hn : n < 9223372036854775808 := by rw [HN.out]; exact numB_63 s i (by omega)
      rcases numB_next HB.out i hlt with ⟨h1, h2⟩ | ⟨h1, h2⟩
      · have HN2 := Lib.hid (show 2 * n = numB s (i + 1) by rw [h2, HN.out])
        clear h2 HN
        have HO := Lib.hid (or0 n hn)
        go_wp2_with fail
        refine ⟨⟨i + 1, 2 * n, by rw [HO.out], by go_num, by omega, HN2⟩, ?_⟩
        simp [intOf]; omega
      · have HN2 := Lib.hid (show 2 * n + 1 = numB s (i + 1) by rw [h2, HN.out])
        clear h2 HN
        have HO := Lib.hid (or1 n hn)
        go_wp2_with fail
        refine ⟨⟨i + 1, 2 * n + 1, by rw [HO.out], by go_num, by omega, HN2⟩, ?_⟩
        simp [intOf]; omega
    · obtain rfl : i = s.size := by omega
      have e : n = z := by rw [HN.out, HZ.out]
      subst e
      clear HN HZ
      go_wp2_with fail
      go_ret2
      exact ⟨rfl, rfl⟩
end Go.Proofs.BT
