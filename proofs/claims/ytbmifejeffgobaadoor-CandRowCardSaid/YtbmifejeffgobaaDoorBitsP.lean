/- Strings of bits: the program's calls and the document's answer the same. -/
import Derived.Test.YtbmifejeffgobaaDoorBitsO
import Derived.Test.YtbmifejeffgobaaDoorBitsJ
import Derived.Deep.Draws
namespace Go.Proofs.BT
open Go.RowKit
open Go.Proofs
open Go
set_option linter.unusedVariables false
set_option linter.unusedSimpArgs false
/-- a call that answers v, whatever the world, and changes nothing that was -/
def Ret (f : Nat) (args : Array Value) (v : Value) : Prop := ∀ w : World, Calls Tryd.prog f args w (fun e w' => e = .returned v ∧ Below w.heap.size w w')
theorem Ret.of {f : Nat} {args : Array Value} {v : Value} (h : ∀ w, Calls Tryd.prog f args w (fun e w' => e = .returned v ∧ w = w')) : Ret f args v :=
  fun w => (h w).mono (fun e w' ⟨a, b⟩ => ⟨a, by rw [← b]; exact Below.refl _ _⟩)
theorem Ret.drew {f : Nat} {args : Array Value} {v : Value} (h : ∀ w, Calls Tryd.prog f args w (fun e w' => e = .returned v ∧ ∃ n, w.drewN n = w')) : Ret f args v :=
  fun w => (h w).mono (fun e w' ⟨a, n, b⟩ => ⟨a, by rw [← b]; exact below_drewN (Below.refl _ _) n⟩)
theorem is_both (s : ByteArray) (hs : s.size ≤ 4294967296) : Ret 14 #[.string s] (.bool (isB s)) ∧ Ret 19 #[.string s] (.bool (isB s)) :=
  ⟨.of fun w => is1 s w hs _ rfl, .of fun w => is2 s w hs _ rfl⟩
theorem isB_size {s : ByteArray} (h : isB s = true) : s.size ≤ 1024 := by unfold isB at h; simp at h; exact h.1
theorem exists_last (s : ByteArray) : (∃ k, ∃ h : k < s.size, s[k] = 48 ∧ ∀ j (h : j < s.size), k < j → s[j] ≠ 48) ∨ (∀ j (h : j < s.size), s[j] ≠ 48) := by
  have get : ∀ j (h : j < s.size), s.data[j]! = s[j] := fun j h => by
    have : j < s.data.size := h
    rw [getElem!_pos s.data j this]; rfl
  have c48 : (48 : UInt8).toNat = 48 := rfl
  rcases Lib.lastIdx_spec s 48 s.size with ⟨_, h⟩ | ⟨i, hi, e, hc, hn⟩
  · exact .inr fun j hj h48 => h j hj (by rw [get j hj, h48]; rfl)
  · refine .inl ⟨i, hi, UInt8.toNat_inj.1 (by rw [get i hi] at hc; omega), fun j hj hij h48 => hn j hij hj (by rw [get j hj, h48]; rfl)⟩
/-- what is told of a part that there is -/
theorem cutE_zero {s : ByteArray} {a k : Int} (h : cutE s a k = 0) : isB s = true ∧ ∃ a' k' : Nat, a = a' ∧ k = k' ∧ 1 ≤ k' ∧ a' + k' ≤ s.size := by
  unfold cutE at h
  cases hb : isB s with
  | false => rw [hb] at h; simp at h
  | true =>
    rw [hb] at h
    cases hp : partB s.size a k with
    | false => rw [hp] at h; simp at h
    | true =>
      unfold partB at hp
      rw [decide_eq_true_eq] at hp
      exact ⟨rfl, a.toNat, k.toNat, by omega, by omega, by omega, by omega⟩
theorem cut_both (s : ByteArray) (a k : Int) (hs : s.size ≤ 4294967296) (a0 : -9223372036854775808 ≤ a ∧ a ≤ 9223372036854775807) (k0 : -9223372036854775808 ≤ k ∧ k ≤ 9223372036854775807) :
    ∃ (z : ByteArray) (e : Int), Ret 33 #[.string s, .int .i64 a, .int .i64 k] (.tuple #[.string z, .int .i64 e]) ∧ Ret 20 #[.string s, .int .i64 a, .int .i64 k] (.tuple #[.string z, .int .i64 e]) := by
  by_cases h : cutE s a k = 0
  · obtain ⟨hb, a', k', rfl, rfl, h1, h2⟩ := cutE_zero h
    exact ⟨_, 0, .drew fun w => cut1 s a' k' w hs hb h1 h2, .drew fun w => cut2 s a' k' w hs hb h1 h2⟩
  · exact ⟨⟨#[]⟩, _, .of fun w => cut1_no s a k w hs _ rfl h a0 k0, .of fun w => cut2_no s a k w hs _ rfl h a0 k0⟩
theorem clear2_no (s : ByteArray) (at' k : Int) (w : World) (hs : s.size ≤ 4294967296) (c : Int) (hc : c = cutE s at' k) (h0 : ¬ c = 0) (a0 : -9223372036854775808 ≤ at' ∧ at' ≤ 9223372036854775807) (k0 : -9223372036854775808 ≤ k ∧ k ≤ 9223372036854775807) :
    Calls Tryd.prog 21 #[.string s, .int .i64 at', .int .i64 k] w fun e w' => e = .returned (.tuple #[.string ⟨#[]⟩, .int .i64 c]) ∧ w = w' := by
  cases hb : isB s with
  | false =>
    obtain rfl : c = 3 := by rw [hc, cutE, if_pos hb]
    have H1 := Lib.hid (is2 s w hs false hb.symm)
    clear hb hc h0
    go_enter Tryd.func21, Tryd.ntmps21
    go_wp2_with fail
    refine H1.out.mono ?_; rintro e w' ⟨rfl, rfl⟩
    go_wp2_with fail
    go_ret2
    exact ⟨rfl, rfl⟩
  | true =>
    have e : c = if partB s.size at' k = true then 0 else 1 := by rw [hc, cutE, if_neg (by rw [hb]; decide)]
    have hp : partB s.size at' k = false := by
      cases hp : partB s.size at' k with
      | false => rfl
      | true => rw [hp] at e; exact absurd e h0
    obtain rfl : c = 1 := by rw [e, hp]; rfl
    have H1 := Lib.hid (is2 s w hs true hb.symm)
    have H2 := Lib.hid (part2 s at' k w hs false hp.symm a0 k0)
    clear hb hc h0 e hp
    go_enter Tryd.func21, Tryd.ntmps21
    go_wp2_with fail
    refine H1.out.mono ?_; rintro e w' ⟨rfl, rfl⟩
    go_wp2_with fail
    refine H2.out.mono ?_; rintro e w' ⟨rfl, rfl⟩
    go_wp2_with fail
    go_ret2
    exact ⟨rfl, rfl⟩
theorem clear_both (s : ByteArray) (a k : Int) (hs : s.size ≤ 4294967296) (a0 : -9223372036854775808 ≤ a ∧ a ≤ 9223372036854775807) (k0 : -9223372036854775808 ≤ k ∧ k ≤ 9223372036854775807) :
    ∃ (z : ByteArray) (e : Int), Ret 34 #[.string s, .int .i64 a, .int .i64 k] (.tuple #[.string z, .int .i64 e]) ∧ Ret 21 #[.string s, .int .i64 a, .int .i64 k] (.tuple #[.string z, .int .i64 e]) := by
  by_cases h : cutE s a k = 0
  · obtain ⟨hb, a', k', rfl, rfl, h1, h2⟩ := cutE_zero h
    have hz := isB_size hb
    exact ⟨_, 0, fun w => clear1 s a' k' w hz hb h1 h2, .drew fun w => clear2 s a' k' w hz hb h1 h2⟩
  · exact ⟨⟨#[]⟩, _, .of fun w => clear1_no s a k w hs _ rfl h a0 k0, .of fun w => clear2_no s a k w hs _ rfl h a0 k0⟩
theorem down2_form (s : ByteArray) (a : Int) (w : World) (hs : s.size ≤ 4294967296) (hb : isB s = false) :
    Calls Tryd.prog 22 #[.string s, .int .i64 a] w fun e w' => e = .returned (.tuple #[.string ⟨#[]⟩, .int .i64 3]) ∧ w = w' := by
  have H1 := Lib.hid (is2 s w hs false hb.symm)
  clear hb
  go_enter Tryd.func22, Tryd.ntmps22
  go_wp2_with fail
  refine H1.out.mono ?_; rintro e w' ⟨rfl, rfl⟩
  go_wp2_with fail
  go_ret2
  exact ⟨rfl, rfl⟩
theorem down2_out (s : ByteArray) (a : Int) (w : World) (hs : s.size ≤ 1024) (hb : isB s = true) (h : a < 0 ∨ s.size ≤ a) :
    Calls Tryd.prog 22 #[.string s, .int .i64 a] w fun e w' => e = .returned (.tuple #[.string ⟨#[]⟩, .int .i64 1]) ∧ w = w' := by
  have H1 := Lib.hid (is2 s w (by omega) true hb.symm)
  clear hb
  rcases h with h | h
  · go_enter Tryd.func22, Tryd.ntmps22
    go_wp2_with fail
    refine H1.out.mono ?_; rintro e w' ⟨rfl, rfl⟩
    go_wp2_with fail
    go_ret2
    exact ⟨rfl, rfl⟩
  · have h1 : ¬ a < 0 := by omega
    go_enter Tryd.func22, Tryd.ntmps22
    go_wp2_with fail
    refine H1.out.mono ?_; rintro e w' ⟨rfl, rfl⟩
    go_wp2_with fail
    go_ret2
    exact ⟨rfl, rfl⟩
theorem down2_zero (s : ByteArray) (at' : Nat) (w : World) (hs : s.size ≤ 1024) (hb : isB s = true) (h1 : at' < s.size) (h2 : s[at'] ≠ 49) :
    Calls Tryd.prog 22 #[.string s, .int .i64 (at' : Int)] w fun e w' => e = .returned (.tuple #[.string ⟨#[]⟩, .int .i64 1]) ∧ w = w' := by
  have H1 := Lib.hid (is2 s w (by omega) true hb.symm)
  have h3 : ¬ ((s[at'].toNat : Nat) : Int) = 49 := fun h => h2 (UInt8.toNat_inj.1 (by have : (49 : UInt8).toNat = 49 := rfl; omega))
  have h4 : (((s[at'].toNat : Nat) : Int) != 49) = true := by simpa using h3
  clear hb h2
  go_enter Tryd.func22, Tryd.ntmps22
  go_wp2_with fail
  refine H1.out.mono ?_; rintro e w' ⟨rfl, rfl⟩
  go_wp2_with fail
  go_ret2
  exact ⟨rfl, rfl⟩
theorem down_both (s : ByteArray) (a : Int) (hs : s.size ≤ 4294967296) (a0 : -9223372036854775808 ≤ a ∧ a ≤ 9223372036854775807) :
    ∃ (z : ByteArray) (e : Int), Ret 27 #[.string s, .int .i64 a] (.tuple #[.string z, .int .i64 e]) ∧ Ret 22 #[.string s, .int .i64 a] (.tuple #[.string z, .int .i64 e]) := by
  cases hb : isB s with
  | false => exact ⟨_, 3, .of fun w => down1_no s a w hs 3 (by rw [cutE, if_pos hb]) (by decide) a0, .of fun w => down2_form s a w hs hb⟩
  | true =>
    have hz := isB_size hb
    by_cases h : a < 0 ∨ s.size ≤ a
    · exact ⟨_, 1, .of fun w => down1_no s a w hs 1 (by rw [cutE, if_neg (by rw [hb]; decide), partB, if_neg (by rw [decide_eq_true_eq]; omega)]) (by decide) a0, .of fun w => down2_out s a w hz hb h⟩
    · obtain ⟨k, rfl⟩ : ∃ k : Nat, a = k := ⟨a.toNat, by omega⟩
      have hk : k < s.size := by omega
      by_cases h2 : s[k] = 49
      · exact ⟨_, 0, fun w => down1 s k w hz hb hk h2, .drew fun w => down2 s k w hz hb hk h2⟩
      · exact ⟨_, 1, .of fun w => down1_zero s k w hz hb hk h2, .of fun w => down2_zero s k w hz hb hk h2⟩
end Go.Proofs.BT
