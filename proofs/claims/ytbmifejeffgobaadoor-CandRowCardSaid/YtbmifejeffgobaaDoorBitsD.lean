/- Strings of bits: the document's Clear, Down. -/
import Derived.Test.YtbmifejeffgobaaDoorBitsC
namespace Go.Proofs.BT
open Go.RowKit
open Go.Proofs
open Go
set_option linter.unusedVariables false
set_option linter.unusedSimpArgs false
/-- a text with 0s for a part -/
def clearB (s : ByteArray) (a k : Nat) : ByteArray := s.extract 0 a ++ rep 48 k ++ s.extract (a + k) s.size
theorem clear2 (s : ByteArray) (at' k : Nat) (w : World) (hs : s.size ≤ 1024) (hb : isB s = true) (h1 : 1 ≤ k) (h2 : at' + k ≤ s.size) :
    Calls Tryd.prog 21 #[.string s, .int .i64 (at' : Int), .int .i64 (k : Int)] w fun e w' => e = .returned (.tuple #[.string (clearB s at' k), .int .i64 0]) ∧ ∃ n, w.drewN n = w' := by
  have H1 := Lib.hid (is2 s w (by omega) true hb.symm)
  have H2 := Lib.hid (part2 s at' k w (by omega) true (by rw [partB]; symm; rw [decide_eq_true_eq]; omega) (by omega) (by omega))
  obtain ⟨z, hz⟩ : ∃ z, z = rep 48 k := ⟨_, rfl⟩
  have HC := Lib.hid (fun (w : World) => (zeros2 k w (by omega) z hz).mono (R' := fun e w' => e = .returned (.string z) ∧ w' = w) (fun e w' ⟨a, b⟩ => ⟨a, b.symm⟩))
  have hzs : z.size = k := by rw [hz, rep_size]
  have HZ := Lib.hid hz
  clear hb hz
  have hz1 : z.size ≤ 1024 := by omega
  clear hzs
  go_enter Tryd.func21, Tryd.ntmps21
  go_wp2_with fail
  refine H1.out.mono ?_; rintro e w' ⟨rfl, rfl⟩
  go_wp2_with fail
  refine H2.out.mono ?_; rintro e w' ⟨rfl, rfl⟩
  go_wp2_with fail
  go_quiet ((go_at_call 32; exact Calls.quiet_of_same (HC.out _)))
  go_wp2_with fail
  go_ret2
  exact ⟨by rw [clearB, ← HZ.out]; rfl, _, rfl⟩
/-- a text with a 0 for a 1, and 1s behind -/
def downB (s : ByteArray) (a : Nat) : ByteArray := s.extract 0 a ++ ⟨#[48]⟩ ++ rep 49 (s.size - a - 1)
theorem ext_size (s : ByteArray) (a : Nat) (h : a ≤ s.size) : (s.extract 0 a).size = a := by simp [ByteArray.size_extract]; omega
theorem down2 (s : ByteArray) (at' : Nat) (w : World) (hs : s.size ≤ 1024) (hb : isB s = true) (h1 : at' < s.size) (h2 : s[at'] = 49) :
    Calls Tryd.prog 22 #[.string s, .int .i64 (at' : Int)] w fun e w' => e = .returned (.tuple #[.string (downB s at'), .int .i64 0]) ∧ ∃ n, w.drewN n = w' := by
  have H1 := Lib.hid (is2 s w (by omega) true hb.symm)
  have h3 : ((s[at'].toNat : Nat) : Int) = 49 := by rw [h2]; rfl
  have S0 := Lib.hid (ext_size s at' (by omega))
  clear hb h2
  go_enter Tryd.func22, Tryd.ntmps22
  go_wp2_with fail
  refine H1.out.mono ?_; rintro e w' ⟨rfl, rfl⟩
  go_wp2_with fail
  go_loopw [6] (fun v wr => ∃ (j : Nat) (b : ByteArray), v = .string b ∧ at' + 1 + j ≤ s.size ∧ b.size ≤ at' + 1 + j ∧ at' + 1 + j ≤ b.size ∧ Hid (b = s.extract 0 at' ++ ⟨#[48]⟩ ++ rep 49 j) ∧ ∃ n, wr = w.drewN n) (fun v _ => match v with | .string b => s.size - b.size | _ => 0)
  case atStart =>
    have e : (s.extract 0 at' ++ ⟨#[48]⟩ : ByteArray).size = at' + 1 := by rw [ByteArray.size_append, S0.out]; rfl
    refine ⟨0, s.extract 0 at' ++ ⟨#[48]⟩, rfl, by omega, by omega, by omega, ?_, ?_⟩
    · rw [Hid]; apply ByteArray.ext; simp [rep]
    · first | exact ⟨0, rfl⟩ | exact ⟨_, rfl⟩
  case round =>
    obtain ⟨j, b, rfl, hj, hb1, hb2, HB, n, rfl⟩ := hrel
    by_cases hlt : b.size < s.size
    · have HB2 : Hid (b ++ ⟨#[49]⟩ = s.extract 0 at' ++ ⟨#[48]⟩ ++ rep 49 (j + 1)) := by
        rw [Hid, HB.out, ← rep_succ, ByteArray.append_assoc]
      have e : (b ++ ⟨#[49]⟩ : ByteArray).size = b.size + 1 := by rw [ByteArray.size_append]; rfl
      have E := Lib.hid e
      clear e
      go_wp2_with fail
      go_roundw
      case rel => exact ⟨j + 1, b ++ ⟨#[49]⟩, rfl, by omega, by rw [E.out]; omega, by rw [E.out]; omega, HB2, n, rfl⟩
      case measure => simp only [E.out]; omega
    · obtain rfl : j = s.size - at' - 1 := by omega
      have e := Lib.hid (show b = downB s at' from HB.out)
      clear HB
      go_wp2_with fail
      go_ret2
      exact ⟨by rw [← e.out]; rfl, n, rfl⟩
end Go.Proofs.BT
