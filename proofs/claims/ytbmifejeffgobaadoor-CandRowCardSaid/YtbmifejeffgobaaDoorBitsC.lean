/- Strings of bits: 0s. -/
import Derived.Test.YtbmifejeffgobaaDoorBitsB
namespace Go.Proofs.BT
open Go.RowKit
open Go.Proofs
open Go
set_option linter.unusedVariables false
set_option linter.unusedSimpArgs false
/-- so many of a byte -/
def rep (b : UInt8) (n : Nat) : ByteArray := ⟨(List.replicate n b).toArray⟩
theorem rep_size (b : UInt8) (n : Nat) : (rep b n).size = n := by simp [rep, ByteArray.size]
theorem rep_succ (b : UInt8) (n : Nat) : rep b n ++ ⟨#[b]⟩ = rep b (n + 1) := by
  apply ByteArray.ext
  rw [ByteArray.data_append]
  simp only [rep]
  rw [List.replicate_succ']
  apply Array.ext'
  simp
theorem zeros2 (n : Nat) (w : World) (hn : n ≤ 100000) (z : ByteArray) (hz : z = rep 48 n) :
    Calls Tryd.prog 32 #[.int .i64 (n : Int)] w fun e w' => e = .returned (.string z) ∧ w = w' := by
  have HZ := Lib.hid hz
  clear hz
  go_enter Tryd.func32, Tryd.ntmps32
  go_wp2
  go_loop [3, 4] (fun s3 s4 => ∃ (i : Nat) (b : ByteArray), s3 = .string b ∧ s4 = .int .i64 i ∧ i ≤ n ∧ b.size ≤ i ∧ Hid (b = rep 48 i)) (fun _ v => n - (intOf v).toNat)
  case atStart => exact ⟨0, ⟨#[]⟩, rfl, rfl, by omega, by decide, rfl⟩
  case round =>
    obtain ⟨i, b, rfl, rfl, hi, hb, HB⟩ := hrel
    by_cases hlt : i < n
    · have HB2 : Hid (b ++ ⟨#[48]⟩ = rep 48 (i + 1)) := by rw [Hid, HB.out]; exact rep_succ _ _
      go_wp2_with fail
      go_round
      case rel => exact ⟨i + 1, b ++ ⟨#[48]⟩, rfl, by go_num, by omega, by rw [HB2.out, rep_size]; omega, HB2⟩
      case measure => simp [intOf]; omega
    · obtain rfl : i = n := by omega
      have e : b = z := by rw [HB.out, HZ.out]
      subst e
      clear HB HZ
      go_wp2_with fail
      go_ret
      exact ⟨rfl, rfl⟩
end Go.Proofs.BT
