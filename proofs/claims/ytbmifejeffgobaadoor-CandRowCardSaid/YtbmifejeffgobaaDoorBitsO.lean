/- Strings of bits: the program's Clear and Down. -/
import Derived.Test.YtbmifejeffgobaaDoorBitsN
namespace Go.Proofs.BT
open Go.RowKit
open Go.Proofs
open Go
set_option linter.unusedVariables false
set_option linter.unusedSimpArgs false
set_option maxHeartbeats 1000000 in
theorem clear1 (s : ByteArray) (at' k : Nat) (w : World) (hs : s.size ≤ 1024) (hb : isB s = true) (h1 : 1 ≤ k) (h2 : at' + k ≤ s.size) :
    Calls Tryd.prog 34 #[.string s, .int .i64 (at' : Int), .int .i64 (k : Int)] w fun e w' => e = .returned (.tuple #[.string (clearB s at' k), .int .i64 0]) ∧ Below w.heap.size w w' := by
  have H2 := Lib.hid (part1 s at' k w (by omega) 0 (by rw [if_neg (by rw [hb]; decide), partB, if_pos (by rw [decide_eq_true_eq]; omega)]) (by omega) (by omega))
  obtain ⟨z, hzz⟩ : ∃ z, z = rep 48 k := ⟨_, rfl⟩
  have z1 : z.size ≤ 1024 := by rw [hzz, rep_size]; omega
  have HZ := Lib.hid hzz
  clear hb hzz
  go_enter Tryd.func34, Tryd.ntmps34
  go_wp2_with fail
  refine H2.out.mono ?_; rintro e w' ⟨rfl, rfl⟩
  go_wp2_with fail
  have hwA : IntKind.i64.wrap ((at' : Int) + (k : Int)) = (at' : Int) + (k : Int) := by rw [IntWalk.i64_in _ (by omega)]
  have hwC : ((at' : Int) + (k : Int)).toNat = at' + k := by omega
  have HR := Lib.hid (fun (W : World) => rep1 48 k W (by omega) (k : Int) rfl z HZ.out)
  go_region_with ((go_at_call 30; refine (HR.out _).mono ?_; rintro e w2 ⟨rfl, hb2⟩))
  all_goals
    have HB := Lib.hid hb2
    clear hb2 hwA hwC HR
    go_wp2
    go_ret2
    refine ⟨by rw [clearB, ← HZ.out]; rfl, ?_⟩
    first
      | exact HB.out
      | exact HB.out.drew
      | exact (Below.refl _ _).drew.trans (HB.out.mono (Nat.le_refl _))
      | exact ((Below.refl _ _).drew.trans (HB.out.mono (Nat.le_refl _))).drew
set_option maxHeartbeats 1000000 in
theorem down1 (s : ByteArray) (at' : Nat) (w : World) (hs : s.size ≤ 1024) (hb : isB s = true) (h1 : at' < s.size) (h2 : s[at'] = 49) :
    Calls Tryd.prog 27 #[.string s, .int .i64 (at' : Int)] w fun e w' => e = .returned (.tuple #[.string (downB s at'), .int .i64 0]) ∧ Below w.heap.size w w' := by
  have H2 := Lib.hid (part1 s at' 1 w (by omega) 0 (by rw [if_neg (by rw [hb]; decide), partB, if_pos (by rw [decide_eq_true_eq]; omega)]) (by omega) (by omega))
  have h3 : ((s[at'].toNat : Nat) : Int) = 49 := by rw [h2]; rfl
  obtain ⟨z, hzz⟩ : ∃ z, z = rep 49 (s.size - at' - 1) := ⟨_, rfl⟩
  have z1 : z.size ≤ 1024 := by rw [hzz, rep_size]; omega
  have HZ := Lib.hid hzz
  clear hb hzz h2
  go_enter Tryd.func27, Tryd.ntmps27
  go_wp2_with fail
  refine H2.out.mono ?_; rintro e w' ⟨rfl, rfl⟩
  go_wp2_with fail
  have hwA : IntKind.i64.wrap ((s.size : Int) - (at' : Int)) = (s.size : Int) - (at' : Int) := by rw [IntWalk.i64_in _ (by omega)]
  have hwB : IntKind.i64.wrap ((s.size : Int) - (at' : Int) - 1) = (s.size : Int) - (at' : Int) - 1 := by rw [IntWalk.i64_in _ (by omega)]
  have HR := Lib.hid (fun (W : World) => rep1 49 (s.size - at' - 1) W (by omega) ((s.size : Int) - (at' : Int) - 1) (by omega) z HZ.out)
  go_region_with ((go_at_call 30; refine (HR.out _).mono ?_; rintro e w2 ⟨rfl, hb2⟩))
  all_goals
    have HB := Lib.hid hb2
    clear hb2 hwA hwB HR
    go_wp2
    go_ret2
    refine ⟨by rw [downB, ← HZ.out]; rfl, ?_⟩
    first
      | exact HB.out
      | exact HB.out.drew
      | exact (Below.refl _ _).drew.trans (HB.out.mono (Nat.le_refl _))
      | exact ((Below.refl _ _).drew.trans (HB.out.mono (Nat.le_refl _))).drew
/-- refused -/
theorem clear1_no (s : ByteArray) (at' k : Int) (w : World) (hs : s.size ≤ 4294967296) (c : Int) (hc : c = cutE s at' k) (h0 : ¬ c = 0) (a0 : -9223372036854775808 ≤ at' ∧ at' ≤ 9223372036854775807) (k0 : -9223372036854775808 ≤ k ∧ k ≤ 9223372036854775807) :
    Calls Tryd.prog 34 #[.string s, .int .i64 at', .int .i64 k] w fun e w' => e = .returned (.tuple #[.string ⟨#[]⟩, .int .i64 c]) ∧ w = w' := by
  have H2 := Lib.hid (part1 s at' k w hs c hc a0 k0)
  have h1 : ((c == 0) : Bool) = false := by simpa using h0
  have h2 : ((c != 0) : Bool) = true := by simpa using h0
  clear hc
  go_enter Tryd.func34, Tryd.ntmps34
  go_wp2_with fail
  refine H2.out.mono ?_; rintro e w' ⟨rfl, rfl⟩
  go_wp2_with fail
  go_ret2
  exact ⟨rfl, rfl⟩
theorem down1_no (s : ByteArray) (at' : Int) (w : World) (hs : s.size ≤ 4294967296) (c : Int) (hc : c = cutE s at' 1) (h0 : ¬ c = 0) (a0 : -9223372036854775808 ≤ at' ∧ at' ≤ 9223372036854775807) :
    Calls Tryd.prog 27 #[.string s, .int .i64 at'] w fun e w' => e = .returned (.tuple #[.string ⟨#[]⟩, .int .i64 c]) ∧ w = w' := by
  have H2 := Lib.hid (part1 s at' 1 w hs c hc a0 (by omega))
  have h1 : ((c == 0) : Bool) = false := by simpa using h0
  have h2 : ((c != 0) : Bool) = true := by simpa using h0
  clear hc
  go_enter Tryd.func27, Tryd.ntmps27
  go_wp2_with fail
  refine H2.out.mono ?_; rintro e w' ⟨rfl, rfl⟩
  go_wp2_with fail
  go_ret2
  exact ⟨rfl, rfl⟩
/-- there is no 1 at the place -/
theorem down1_zero (s : ByteArray) (at' : Nat) (w : World) (hs : s.size ≤ 1024) (hb : isB s = true) (h1 : at' < s.size) (h2 : s[at'] ≠ 49) :
    Calls Tryd.prog 27 #[.string s, .int .i64 (at' : Int)] w fun e w' => e = .returned (.tuple #[.string ⟨#[]⟩, .int .i64 1]) ∧ w = w' := by
  have H2 := Lib.hid (part1 s at' 1 w (by omega) 0 (by rw [if_neg (by rw [hb]; decide), partB, if_pos (by rw [decide_eq_true_eq]; omega)]) (by omega) (by omega))
  have h3 : ¬ ((s[at'].toNat : Nat) : Int) = 49 := fun h => h2 (UInt8.toNat_inj.1 (by have : (49 : UInt8).toNat = 49 := rfl; omega))
  have h4 : (((s[at'].toNat : Nat) : Int) != 49) = true := by simpa using h3
  clear hb h2
  go_enter Tryd.func27, Tryd.ntmps27
  go_wp2_with fail
  refine H2.out.mono ?_; rintro e w' ⟨rfl, rfl⟩
  go_wp2_with fail
  go_ret2
  exact ⟨rfl, rfl⟩
end Go.Proofs.BT
