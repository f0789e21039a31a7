/- Strings of bits: whether a text is one. -/
import Derived.Test.YticickjnlkbkoaaGreatProg
import Derived.WalkKit
import Derived.ProofKit
import Derived.Lib.Hide
import Derived.Deep.QuietTactic
import Derived.BigQuiet
import Derived.LoopTactic
namespace Go.Proofs.BT
open Go.RowKit
open Go.Proofs
open Go
set_option linter.unusedVariables false
set_option linter.unusedSimpArgs false
/-- is a byte a bit? are all of a text? -/
def bit1 (b : UInt8) : Bool := b == 48 || b == 49
def bits (s : ByteArray) : Bool := s.data.toList.all bit1
theorem bits_of (s : ByteArray) (h : ∀ j (h : j < s.size), bit1 s[j] = true) : bits s = true := by
  unfold bits
  rw [List.all_eq_true]
  intro x hx
  obtain ⟨j, hj, rfl⟩ := List.getElem_of_mem hx
  exact h j (by simpa using hj)
theorem bits_no (s : ByteArray) (j : Nat) (h : j < s.size) (hb : bit1 s[j] = false) : bits s = false := by
  unfold bits
  rw [List.all_eq_false]
  refine ⟨s[j], ?_, by rw [hb]; simp⟩
  have : s[j] = s.data.toList[j]'(by simpa using h) := rfl
  rw [this]; exact List.getElem_mem _
theorem bit1_cases (b : UInt8) : ((b.toNat : Int) = 48 ∧ bit1 b = true) ∨ ((b.toNat : Int) = 49 ∧ bit1 b = true) ∨ ((¬ (b.toNat : Int) = 48 ∧ ¬ (b.toNat : Int) = 49) ∧ bit1 b = false) := by
  have e : ∀ k : UInt8, b = k ↔ b.toNat = k.toNat := fun k => ⟨fun h => by rw [h], fun h => UInt8.toNat_inj.1 h⟩
  by_cases h1 : b = 48
  · subst h1; exact .inl ⟨rfl, rfl⟩
  · by_cases h2 : b = 49
    · subst h2; exact .inr (.inl ⟨rfl, rfl⟩)
    · refine .inr (.inr ⟨⟨?_, ?_⟩, ?_⟩)
      · intro h; exact h1 ((e 48).2 (by have : (48 : UInt8).toNat = 48 := rfl; omega))
      · intro h; exact h2 ((e 49).2 (by have : (49 : UInt8).toNat = 49 := rfl; omega))
      · simp [bit1, h1, h2]
theorem next {s : ByteArray} {i : Nat} (hz : Hid (∀ j (h : j < s.size), j < i → bit1 s[j] = true)) (hi : i < s.size) (hb : bit1 s[i] = true) : Hid (∀ j (h : j < s.size), j < i + 1 → bit1 s[j] = true) := by
  intro j h hj
  rcases Nat.lt_or_ge j i with h' | h'
  · exact hz.out j h h'
  · obtain rfl : j = i := by omega
    exact hb
theorem odd (s : ByteArray) (w : World) (hs : s.size ≤ 4294967296) (z : Bool) (hz : z = bits s) :
    Calls Tryz.prog 35 #[.string s] w fun e w' => e = .returned (.bool (!z)) ∧ w = w' := by
  have HZ := Lib.hid hz
  clear hz
  go_enter Tryz.func35, Tryz.ntmps35
  go_wp2
  go_loop [6] (fun v => ∃ i : Nat, v = .int .i64 i ∧ i ≤ s.size ∧ Hid (∀ j (h : j < s.size), j < i → bit1 s[j] = true)) (fun v => s.size - (intOf v).toNat)
  case atStart => exact ⟨0, rfl, by omega, fun j _ hj => by omega⟩
  case round =>
    obtain ⟨i, rfl, hi, hz⟩ := hrel
    by_cases hlt : i < s.size
    · rcases bit1_cases s[i] with ⟨h1, h2⟩ | ⟨h1, h2⟩ | ⟨⟨h1, h3⟩, h2⟩
      · have hz2 := next hz hlt h2
        clear h2
        go_wp2_with fail
        go_round
        case rel => exact ⟨i + 1, by go_num, by omega, hz2⟩
        case measure => simp [intOf]; omega
      · have hz2 := next hz hlt h2
        clear h2
        go_wp2_with fail
        go_round
        case rel => exact ⟨i + 1, by go_num, by omega, hz2⟩
        case measure => simp [intOf]; omega
      · have e := Lib.hid (show z = false by rw [HZ.out]; exact bits_no s i hlt h2)
        have h4 : ((s[i].toNat : Int) != 48) = true := by simpa using h1
        have h5 : ((s[i].toNat : Int) != 49) = true := by simpa using h3
        clear h2
        go_wp2_with fail
        go_ret
        exact ⟨by rw [e.out]; rfl, rfl⟩
    · obtain rfl : i = s.size := by omega
      have e := Lib.hid (show z = true by rw [HZ.out]; exact bits_of s (fun j h => hz.out j h h))
      go_wp2_with fail
      go_ret
      exact ⟨by rw [e.out]; rfl, rfl⟩
/-- is a text a string of bits? -/
def isB (s : ByteArray) : Bool := decide (s.size ≤ 1024) && bits s
theorem is1 (s : ByteArray) (w : World) (hs : s.size ≤ 4294967296) (z : Bool) (hz : z = isB s) :
    Calls Tryz.prog 24 #[.string s] w fun e w' => e = .returned (.bool z) ∧ w = w' := by
  by_cases hl : s.size ≤ 1024
  · have HO := Lib.hid (odd s w hs z (by rw [hz, isB]; simp [hl]))
    clear hz
    go_enter Tryz.func24, Tryz.ntmps24
    go_wp2_with fail
    refine HO.out.mono ?_; rintro e w' ⟨rfl, rfl⟩
    go_wp2_with fail
    go_ret
    exact ⟨by simp, rfl⟩
  · obtain rfl : z = false := by rw [hz, isB]; simp [hl]
    clear hz
    go_enter Tryz.func24, Tryz.ntmps24
    go_wp2_with fail
    go_ret
    exact ⟨rfl, rfl⟩
end Go.Proofs.BT
