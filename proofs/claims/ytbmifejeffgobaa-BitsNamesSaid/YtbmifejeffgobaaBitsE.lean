/- Strings of bits: the document's Next. -/
import Derived.Test.YtbmifejeffgobaaBitsD
import Derived.IntWalk
namespace Go.Proofs.BT
open Go.RowKit
open Go.Proofs
open Go
set_option linter.unusedVariables false
set_option linter.unusedSimpArgs false
/-- a 0 at i becomes a 1, 0s behind -/
def upB (s : ByteArray) (i : Nat) : ByteArray := s.extract 0 i ++ ⟨#[49]⟩ ++ rep 48 (s.size - i - 1)
theorem next2_odd (s : ByteArray) (w : World) (hs : s.size ≤ 4294967296) (hb : isB s = false) :
    Calls Try.prog 16 #[.string s] w fun e w' => e = .returned (.tuple #[.string ⟨#[]⟩, .bool false]) ∧ w = w' := by
  have H1 := Lib.hid (is2 s w hs false hb.symm)
  clear hb
  go_enter Try.func16, Try.ntmps16
  go_wp2_with fail
  refine H1.out.mono ?_; rintro e w' ⟨rfl, rfl⟩
  go_wp2_with fail
  go_ret2
  exact ⟨rfl, rfl⟩
set_option maxHeartbeats 1000000 in
theorem next2_up (s : ByteArray) (w : World) (hs : s.size ≤ 1024) (hb : isB s = true) (k : Nat) (hk : k < s.size) (h48 : s[k] = 48) (hz : ∀ j (h : j < s.size), k < j → s[j] ≠ 48) :
    Calls Try.prog 16 #[.string s] w fun e w' => e = .returned (.tuple #[.string (upB s k), .bool true]) ∧ ∃ n, w.drewN n = w' := by
  have H1 := Lib.hid (is2 s w (by omega) true hb.symm)
  have h0 : ((s[k].toNat : Nat) : Int) = 48 := by rw [h48]; rfl
  have HN := Lib.hid (show ∀ j (h : j < s.size), k < j → ¬ ((s[j].toNat : Nat) : Int) = 48 from fun j h hj h1 => hz j h hj (UInt8.toNat_inj.1 (by have : (48 : UInt8).toNat = 48 := rfl; omega)))
  obtain ⟨z, hzz⟩ : ∃ z, z = rep 48 (s.size - k - 1) := ⟨_, rfl⟩
  have HC := Lib.hid (fun (w : World) (q : Int) (hq : q = ((s.size - k - 1 : Nat) : Int)) => show Calls Try.prog 28 #[.int .i64 q] w (fun e w' => e = .returned (.string z) ∧ w' = w) from by
    subst hq; exact (zeros2 (s.size - k - 1) w (by omega) z hzz).mono (fun e w' ⟨a, b⟩ => ⟨a, b.symm⟩))
  have z1 : z.size ≤ 1024 := by rw [hzz, rep_size]; omega
  have HZ := Lib.hid hzz
  clear hb hzz hz h48
  go_enter Try.func16, Try.ntmps16
  go_wp2_with fail
  refine H1.out.mono ?_; rintro e w' ⟨rfl, rfl⟩
  go_wp2_with fail
  go_loop [4] (fun v => ∃ i : Nat, v = .int .i64 i ∧ k ≤ i ∧ i < s.size) (fun v => (intOf v).toNat)
  case atStart => exact ⟨s.size - 1, by congr 1; omega, by omega, by omega⟩
  case round =>
    obtain ⟨i, rfl, hi, hl⟩ := hrel
    by_cases hlt : k < i
    · have hne := HN.out i hl hlt
      go_wp2_with fail
      go_round
      case rel => exact ⟨i - 1, by congr 1; omega, by omega, by omega⟩
      case measure => simp [intOf]; omega
    · obtain rfl : i = k := by omega
      have hwA : IntKind.i64.wrap ((s.size : Int) - (i : Int)) = (s.size : Int) - (i : Int) := by rw [IntWalk.i64_in _ (by omega)]
      have hwB : IntKind.i64.wrap ((s.size : Int) - (i : Int) - 1) = (s.size : Int) - (i : Int) - 1 := by rw [IntWalk.i64_in _ (by omega)]
      have HC2 := Lib.hid (fun (w : World) => HC.out w ((s.size : Int) - (i : Int) - 1) (by omega))
      go_wp2_with fail
      go_quiet ((go_at_call 28; exact Calls.quiet_of_same (HC2.out _)))
      clear hwA hwB
      go_wp2_with fail
      go_ret2
      exact ⟨by rw [upB, ← HZ.out]; rfl, _, rfl⟩
theorem next2_full (s : ByteArray) (w : World) (hs1 : 1024 ≤ s.size) (hs : s.size ≤ 1024) (hb : isB s = true) (hz : ∀ j (h : j < s.size), s[j] ≠ 48) :
    Calls Try.prog 16 #[.string s] w fun e w' => e = .returned (.tuple #[.string ⟨#[]⟩, .bool false]) ∧ w = w' := by
  have H1 := Lib.hid (is2 s w (by omega) true hb.symm)
  have HN := Lib.hid (show ∀ j (h : j < s.size), ¬ ((s[j].toNat : Nat) : Int) = 48 from fun j h h1 => hz j h (UInt8.toNat_inj.1 (by have : (48 : UInt8).toNat = 48 := rfl; omega)))
  clear hb hz
  go_enter Try.func16, Try.ntmps16
  go_wp2_with fail
  refine H1.out.mono ?_; rintro e w' ⟨rfl, rfl⟩
  go_wp2_with fail
  go_loop [4] (fun v => ∃ i : Int, v = .int .i64 i ∧ -1 ≤ i ∧ i < s.size) (fun v => (intOf v + 1).toNat)
  case atStart => exact ⟨(s.size : Int) - 1, rfl, by omega, by omega⟩
  case round =>
    obtain ⟨i, rfl, hi, hl⟩ := hrel
    by_cases hlt : 0 ≤ i
    · obtain ⟨j, rfl⟩ : ∃ j : Nat, i = j := ⟨i.toNat, by omega⟩
      have hne := HN.out j (by omega)
      go_wp2_with fail
      go_round
      case rel => exact ⟨(j : Int) - 1, rfl, by omega, by omega⟩
      case measure => simp [intOf]
    · go_wp2_with fail
      go_ret2
      exact ⟨rfl, rfl⟩
theorem next2_more (s : ByteArray) (w : World) (hs : s.size ≤ 1023) (hb : isB s = true) (hz : ∀ j (h : j < s.size), s[j] ≠ 48) :
    Calls Try.prog 16 #[.string s] w fun e w' => e = .returned (.tuple #[.string (rep 48 (s.size + 1)), .bool true]) ∧ w = w' := by
  have H1 := Lib.hid (is2 s w (by omega) true hb.symm)
  have HN := Lib.hid (show ∀ j (h : j < s.size), ¬ ((s[j].toNat : Nat) : Int) = 48 from fun j h h1 => hz j h (UInt8.toNat_inj.1 (by have : (48 : UInt8).toNat = 48 := rfl; omega)))
  obtain ⟨z, hzz⟩ : ∃ z, z = rep 48 (s.size + 1) := ⟨_, rfl⟩
  have HC := Lib.hid (show ∀ (w : World) (q : Int) (hq : q = ((s.size + 1 : Nat) : Int)), Calls Try.prog 28 #[.int .i64 q] w (fun e w' => e = .returned (.string z) ∧ w = w') from fun w q hq => by
    subst hq; exact zeros2 (s.size + 1) w (by omega) z hzz)
  have HZ := Lib.hid hzz
  clear hb hz hzz
  go_enter Try.func16, Try.ntmps16
  go_wp2_with fail
  refine H1.out.mono ?_; rintro e w' ⟨rfl, rfl⟩
  go_wp2_with fail
  go_loop [4] (fun v => ∃ i : Int, v = .int .i64 i ∧ -1 ≤ i ∧ i < s.size) (fun v => (intOf v + 1).toNat)
  case atStart => exact ⟨(s.size : Int) - 1, rfl, by omega, by omega⟩
  case round =>
    obtain ⟨i, rfl, hi, hl⟩ := hrel
    by_cases hlt : 0 ≤ i
    · obtain ⟨j, rfl⟩ : ∃ j : Nat, i = j := ⟨i.toNat, by omega⟩
      have hne := HN.out j (by omega)
      go_wp2_with fail
      go_round
      case rel => exact ⟨(j : Int) - 1, rfl, by omega, by omega⟩
      case measure => simp [intOf]
    · go_wp2_with fail
      refine (HC.out _ _ (by omega)).mono ?_; rintro e w' ⟨rfl, rfl⟩
      go_wp2_with fail
      go_ret2
      exact ⟨by rw [← HZ.out]; rfl, rfl⟩
end Go.Proofs.BT
