/- Strings of bits: a part at a place. -/
import Derived.Test.YtbmifejeffgobaaDoorBitsA
namespace Go.Proofs.BT
open Go.RowKit
open Go.Proofs
open Go
set_option linter.unusedVariables false
set_option linter.unusedSimpArgs false
theorem ret_bool {a b : Bool} (h : a = b) : Ending.returned (.bool a) = .returned (.bool b) := by rw [h]
theorem ret_int {k : IntKind} {a b : Int} (h : a = b) : Ending.returned (.int k a) = .returned (.int k b) := by rw [h]
/-- has a text of n bytes a part of so many at a place? -/
def partB (n : Nat) (at' k : Int) : Bool := decide (1 ≤ k ∧ k ≤ n ∧ 0 ≤ at' ∧ at' ≤ n - k)
theorem part2 (s : ByteArray) (at' k : Int) (w : World) (hs : s.size ≤ 4294967296) (z : Bool) (hz : z = partB s.size at' k) (a0 : -9223372036854775808 ≤ at' ∧ at' ≤ 9223372036854775807) (k0 : -9223372036854775808 ≤ k ∧ k ≤ 9223372036854775807) :
    Calls Tryd.prog 31 #[.string s, .int .i64 at', .int .i64 k] w fun e w' => e = .returned (.bool z) ∧ w = w' := by
  have HZ := Lib.hid hz
  clear hz
  go_enter Tryd.func31, Tryd.ntmps31
  go_wp2_with fail
  all_goals
    go_ret
    refine ⟨ret_bool ?_, rfl⟩
    rw [HZ.out, partB]
    first
      | (rw [decide_eq_decide]; omega)
      | (symm; rw [decide_eq_false_iff_not]; omega)
/-- package bits tells an error instead -/
theorem part1 (s : ByteArray) (at' k : Int) (w : World) (hs : s.size ≤ 4294967296) (c : Int) (hc : c = if isB s = false then 3 else if partB s.size at' k = true then 0 else 1) (a0 : -9223372036854775808 ≤ at' ∧ at' ≤ 9223372036854775807) (k0 : -9223372036854775808 ≤ k ∧ k ≤ 9223372036854775807) :
    Calls Tryd.prog 35 #[.string s, .int .i64 at', .int .i64 k] w fun e w' => e = .returned (.int .i64 c) ∧ w = w' := by
  have H1 := Lib.hid (fun z hz => is1 s w hs z hz)
  cases hb : isB s with
  | false =>
    obtain rfl : c = 3 := by rw [hc, if_pos hb]
    have H := Lib.hid (H1.out false hb.symm)
    clear hc hb H1
    go_enter Tryd.func35, Tryd.ntmps35
    go_wp2_with fail
    refine H.out.mono ?_; rintro e w' ⟨rfl, rfl⟩
    go_wp2_with fail
    go_ret
    exact ⟨rfl, rfl⟩
  | true =>
    have HZ := Lib.hid (show c = if partB s.size at' k = true then 0 else 1 by rw [hc, if_neg (by rw [hb]; decide)])
    have H := Lib.hid (H1.out true hb.symm)
    clear hc hb H1
    go_enter Tryd.func35, Tryd.ntmps35
    go_wp2_with fail
    refine H.out.mono ?_; rintro e w' ⟨rfl, rfl⟩
    go_wp2_with fail
    all_goals
      go_ret
      refine ⟨ret_int ?_, rfl⟩
      rw [HZ.out, partB]
      first
        | (rw [if_pos (by rw [decide_eq_true_eq]; omega)])
        | (rw [if_neg (by rw [decide_eq_true_eq]; omega)])
/-- a text without a part -/
def cutB (s : ByteArray) (a k : Nat) : ByteArray := s.extract 0 a ++ s.extract (a + k) s.size
theorem cut2 (s : ByteArray) (at' k : Nat) (w : World) (hs : s.size ≤ 4294967296) (hb : isB s = true) (h1 : 1 ≤ k) (h2 : at' + k ≤ s.size) :
    Calls Tryd.prog 20 #[.string s, .int .i64 (at' : Int), .int .i64 (k : Int)] w fun e w' => e = .returned (.tuple #[.string (cutB s at' k), .int .i64 0]) ∧ ∃ n, w.drewN n = w' := by
  have H1 := Lib.hid (is2 s w hs true hb.symm)
  have H2 := Lib.hid (part2 s at' k w hs true (by rw [partB]; symm; rw [decide_eq_true_eq]; omega) (by omega) (by omega))
  clear hb
  go_enter Tryd.func20, Tryd.ntmps20
  go_wp2_with fail
  refine H1.out.mono ?_; rintro e w' ⟨rfl, rfl⟩
  go_wp2_with fail
  refine H2.out.mono ?_; rintro e w' ⟨rfl, rfl⟩
  go_wp2_with fail
  go_quiet (fail)
  go_wp2_with fail
  go_ret2
  exact ⟨rfl, _, rfl⟩
theorem cut1 (s : ByteArray) (at' k : Nat) (w : World) (hs : s.size ≤ 4294967296) (hb : isB s = true) (h1 : 1 ≤ k) (h2 : at' + k ≤ s.size) :
    Calls Tryd.prog 33 #[.string s, .int .i64 (at' : Int), .int .i64 (k : Int)] w fun e w' => e = .returned (.tuple #[.string (cutB s at' k), .int .i64 0]) ∧ ∃ n, w.drewN n = w' := by
  have H2 := Lib.hid (part1 s at' k w hs 0 (by rw [if_neg (by rw [hb]; decide), partB, if_pos (by rw [decide_eq_true_eq]; omega)]) (by omega) (by omega))
  clear hb
  go_enter Tryd.func33, Tryd.ntmps33
  go_wp2_with fail
  refine H2.out.mono ?_; rintro e w' ⟨rfl, rfl⟩
  go_wp2_with fail
  go_quiet (fail)
  go_wp2_with fail
  go_ret2
  exact ⟨rfl, _, rfl⟩
/-- refused -/
def cutE (s : ByteArray) (a k : Int) : Int := if isB s = false then 3 else if partB s.size a k = true then 0 else 1
theorem cut2_no (s : ByteArray) (at' k : Int) (w : World) (hs : s.size ≤ 4294967296) (c : Int) (hc : c = cutE s at' k) (h0 : ¬ c = 0) (a0 : -9223372036854775808 ≤ at' ∧ at' ≤ 9223372036854775807) (k0 : -9223372036854775808 ≤ k ∧ k ≤ 9223372036854775807) :
    Calls Tryd.prog 20 #[.string s, .int .i64 at', .int .i64 k] w fun e w' => e = .returned (.tuple #[.string ⟨#[]⟩, .int .i64 c]) ∧ w = w' := by
  cases hb : isB s with
  | false =>
    obtain rfl : c = 3 := by rw [hc, cutE, if_pos hb]
    have H1 := Lib.hid (is2 s w hs false hb.symm)
    clear hb hc h0
    go_enter Tryd.func20, Tryd.ntmps20
    go_wp2_with fail
    refine H1.out.mono ?_; rintro e w' ⟨rfl, rfl⟩
    go_wp2_with fail
    go_ret2
    exact ⟨rfl, rfl⟩
  | true =>
    have e : c = if partB s.size at' k = true then 0 else 1 := by rw [hc, cutE, if_neg (by rw [hb]; decide)]
    have hp : partB s.size at' k = false := by
      cases hp : partB s.size at' k with
      | false => rfl
      | true => rw [hp] at e; exact absurd e h0
    obtain rfl : c = 1 := by rw [e, hp]; rfl
    have H1 := Lib.hid (is2 s w hs true hb.symm)
    have H2 := Lib.hid (part2 s at' k w hs false hp.symm a0 k0)
    clear hb hc h0 e hp
    go_enter Tryd.func20, Tryd.ntmps20
    go_wp2_with fail
    refine H1.out.mono ?_; rintro e w' ⟨rfl, rfl⟩
    go_wp2_with fail
    refine H2.out.mono ?_; rintro e w' ⟨rfl, rfl⟩
    go_wp2_with fail
    go_ret2
    exact ⟨rfl, rfl⟩
theorem cut1_no (s : ByteArray) (at' k : Int) (w : World) (hs : s.size ≤ 4294967296) (c : Int) (hc : c = cutE s at' k) (h0 : ¬ c = 0) (a0 : -9223372036854775808 ≤ at' ∧ at' ≤ 9223372036854775807) (k0 : -9223372036854775808 ≤ k ∧ k ≤ 9223372036854775807) :
    Calls Tryd.prog 33 #[.string s, .int .i64 at', .int .i64 k] w fun e w' => e = .returned (.tuple #[.string ⟨#[]⟩, .int .i64 c]) ∧ w = w' := by
  have H2 := Lib.hid (part1 s at' k w hs c hc a0 k0)
  have h1 : ((c == 0) : Bool) = false := by simpa using h0
  have h2 : ((c != 0) : Bool) = true := by simpa using h0
  clear hc
  go_enter Tryd.func33, Tryd.ntmps33
  go_wp2_with fail
  refine H2.out.mono ?_; rintro e w' ⟨rfl, rfl⟩
  go_wp2_with fail
  go_ret2
  exact ⟨rfl, rfl⟩
end Go.Proofs.BT
