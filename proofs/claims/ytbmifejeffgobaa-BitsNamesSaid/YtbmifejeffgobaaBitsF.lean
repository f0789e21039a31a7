/- Strings of bits: the number of one. -/
import Derived.Test.YtbmifejeffgobaaBitsE
namespace Go.Proofs.BT
open Go.RowKit
open Go.Proofs
open Go
set_option linter.unusedVariables false
set_option linter.unusedSimpArgs false
/-- the number that the first ones of a text's bits are -/
def numB (s : ByteArray) : Nat → Nat
  | 0 => 0
  | i + 1 => 2 * numB s i + (if h : i < s.size then (if s[i] = 49 then 1 else 0) else 0)
theorem numB_lt (s : ByteArray) : ∀ i, numB s i < 2 ^ i
  | 0 => by simp [numB]
  | i + 1 => by
    have := numB_lt s i
    rw [numB, Nat.pow_succ]
    split
    · split <;> omega
    · omega
theorem numB_63 (s : ByteArray) (i : Nat) (h : i ≤ 63) : numB s i < 9223372036854775808 := by
  have h1 := numB_lt s i
  have h2 : 2 ^ i ≤ 2 ^ 63 := Nat.pow_le_pow_right (by decide) h
  omega
theorem bits_all {s : ByteArray} (h : bits s = true) (j : Nat) (hj : j < s.size) : bit1 s[j] = true := by
  unfold bits at h
  rw [List.all_eq_true] at h
  exact h _ (by have : s[j] = s.data.toList[j]'(by simpa using hj) := rfl; rw [this]; exact List.getElem_mem _)
/-- one bit more -/
theorem numB_next {s : ByteArray} (h : bits s = true) (i : Nat) (hi : i < s.size) : (((s[i].toNat : Nat) : Int) = 48 ∧ numB s (i + 1) = 2 * numB s i) ∨ (((s[i].toNat : Nat) : Int) = 49 ∧ numB s (i + 1) = 2 * numB s i + 1) := by
  have hb := bits_all h i hi
  rcases bit1_cases s[i] with ⟨h1, _⟩ | ⟨h1, _⟩ | ⟨_, h2⟩
  · left; refine ⟨h1, ?_⟩
    have : s[i] ≠ 49 := by intro e; rw [e] at h1; exact absurd h1 (by decide)
    rw [numB, dif_pos hi, if_neg this, Nat.add_zero]
  · right; refine ⟨h1, ?_⟩
    have : s[i] = 49 := UInt8.toNat_inj.1 (by have : (49 : UInt8).toNat = 49 := rfl; omega)
    rw [numB, dif_pos hi, if_pos this]
  · rw [hb] at h2; cases h2
theorem isB_bits {s : ByteArray} (h : isB s = true) : bits s = true := by unfold isB at h; simp at h; exact h.2
theorem num2 (s : ByteArray) (w : World) (hs : s.size ≤ 64) (hb : isB s = true) (z : Nat) (hz : z = numB s s.size) :
    Calls Try.prog 8 #[.string s] w fun e w' => e = .returned (.tuple #[.int .u64 (z : Int), .int .i64 0]) ∧ w = w' := by
  have H1 := Lib.hid (is2 s w (by omega) true hb.symm)
  have HB := Lib.hid (isB_bits hb)
  have HZ := Lib.hid hz
  clear hb hz
  go_enter Try.func8, Try.ntmps8
  go_wp2_with fail
  refine H1.out.mono ?_; rintro e w' ⟨rfl, rfl⟩
  go_wp2_with fail
  go_loop [4, 5] (fun a b => ∃ i n : Nat, a = .int .u64 n ∧ b = .int .i64 i ∧ i ≤ s.size ∧ Hid (n = numB s i)) (fun _ v => s.size - (intOf v).toNat)
  case atStart => exact ⟨0, 0, rfl, rfl, by omega, rfl⟩
  case round =>
    obtain ⟨i, n, rfl, rfl, hi, HN⟩ := hrel
    by_cases hlt : i < s.size
    · have hn : n < 9223372036854775808 := by rw [HN.out]; exact numB_63 s i (by omega)
      rcases numB_next HB.out i hlt with ⟨h1, h2⟩ | ⟨h1, h2⟩
      · have HN2 := Lib.hid (show 2 * n = numB s (i + 1) by rw [h2, HN.out])
        clear h2 HN
        go_wp2_with fail
        go_round
        case rel => exact ⟨i + 1, 2 * n, by congr 1 <;> omega, by go_num, by omega, HN2⟩
        case measure => simp [intOf]; omega
      · have HN2 := Lib.hid (show 2 * n + 1 = numB s (i + 1) by rw [h2, HN.out])
        clear h2 HN
        go_wp2_with fail
        go_round
        case rel => exact ⟨i + 1, 2 * n + 1, by congr 1 <;> omega, by go_num, by omega, HN2⟩
        case measure => simp [intOf]; omega
    · obtain rfl : i = s.size := by omega
      have e : n = z := by rw [HN.out, HZ.out]
      subst e
      clear HN HZ
      go_wp2_with fail
      go_ret2
      exact ⟨rfl, rfl⟩
end Go.Proofs.BT
