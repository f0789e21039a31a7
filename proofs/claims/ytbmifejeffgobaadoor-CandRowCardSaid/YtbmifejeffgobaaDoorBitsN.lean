/- Strings of bits: the program's Cmp, Next, Clear, Down: the library's calls by the shelf's contracts. -/
import Derived.Test.YtbmifejeffgobaaDoorBitsE
import Derived.Test.YtbmifejeffgobaaDoorBitsH
import Derived.Test.YtbmifejeffgobaaDoorShelf
import Derived.Deep.RegionHeld3
import Derived.StillTailTactics
namespace Go.Proofs.BT
open Go.RowKit
open Go.Proofs
open Go
set_option linter.unusedVariables false
set_option linter.unusedSimpArgs false
theorem cmp1 (a b : ByteArray) (w : World) (hs : a.size ≤ 4294967296) (hs2 : b.size ≤ 4294967296) (z : Int) (hz : z = cmpB a b) :
    Calls Tryd.prog 17 #[.string a, .string b] w fun e w' => e = .returned (.int .i64 z) ∧ w = w' := by
  have HZ := Lib.hid hz
  clear hz
  rcases Nat.lt_trichotomy a.size b.size with h | h | h
  · have e := Lib.hid (show z = -1 by rw [HZ.out, cmpB, if_pos h])
    clear HZ
    go_enter Tryd.func17, Tryd.ntmps17
    go_wp2_with fail
    go_ret
    exact ⟨by rw [e.out]; rfl, rfl⟩
  · have HE := Lib.hid (show Lib.compareBytes a.data.toList b.data.toList = z by rw [HZ.out, cmpB, if_neg (by omega), if_neg (by omega)])
    have h1 : b.size ≤ a.size := by omega
    have h2 : a.size ≤ b.size := by omega
    clear h HZ
    go_enter Tryd.func17, Tryd.ntmps17
    go_wp2_with fail
    refine (Tryd.strings_Compare a b _).mono ?_; rintro e w' ⟨rfl, rfl⟩
    rw [HE.out]
    go_wp2_with fail
    go_ret
    exact ⟨rfl, rfl⟩
  · have e := Lib.hid (show z = 1 by rw [HZ.out, cmpB, if_neg (by omega), if_pos h])
    have h1 : b.size ≤ a.size := by omega
    clear HZ
    go_enter Tryd.func17, Tryd.ntmps17
    go_wp2_with fail
    go_ret
    exact ⟨by rw [e.out]; rfl, rfl⟩
theorem repeat_rep (b : UInt8) (n : Nat) : (⟨(Lib.repeatL (⟨#[b]⟩ : ByteArray).data.toList n).toArray⟩ : ByteArray) = rep b n := by
  rw [rep]
  have := Lib.repeatL_replicate b 1 n
  simpa using congrArg (fun l => (⟨l.toArray⟩ : ByteArray)) this
theorem rep1 (b : UInt8) (n : Nat) (w : World) (hn : n ≤ 100000) (q : Int) (hq : q = n) (z : ByteArray) (hz : z = rep b n) :
    Calls Tryd.prog 30 #[.string ⟨#[b]⟩, .int .i64 q] w fun e w' => e = .returned (.string z) ∧ Below w.heap.size w w' := by
  subst hq
  rw [hz, ← repeat_rep]
  exact Tryd.strings_Repeat ⟨#[b]⟩ n w (by omega) (by have : (⟨#[b]⟩ : ByteArray).size = 1 := rfl; rw [this]; omega)
theorem last_at (s : ByteArray) (k : Nat) (hk : k < s.size) (h48 : s[k] = 48) (hz : ∀ j (h : j < s.size), k < j → s[j] ≠ 48) : Lib.lastIndexByte s 48 = k := by
  have get : ∀ j (h : j < s.size), s.data[j]! = s[j] := fun j h => by
    have : j < s.data.size := h
    rw [getElem!_pos s.data j this]; rfl
  rcases Lib.lastIdx_spec s 48 s.size with ⟨_, h⟩ | ⟨i, hi, e, hc, hn⟩
  · exact absurd (by rw [get k hk, h48]; rfl) (h k hk)
  · rw [Lib.lastIndexByte, e]
    rcases Nat.lt_trichotomy i k with h | h | h
    · exact absurd (by rw [get k hk, h48]; rfl) (hn k h hk)
    · rw [h]
    · rw [get i hi] at hc
      exact absurd (UInt8.toNat_inj.1 (by have : (48 : UInt8).toNat = 48 := rfl; omega)) (hz i hi h)
theorem last_no (s : ByteArray) (hz : ∀ j (h : j < s.size), s[j] ≠ 48) : Lib.lastIndexByte s 48 = -1 := by
  have get : ∀ j (h : j < s.size), s.data[j]! = s[j] := fun j h => by
    have : j < s.data.size := h
    rw [getElem!_pos s.data j this]; rfl
  rcases Lib.lastIdx_spec s 48 s.size with ⟨e, _⟩ | ⟨i, hi, e, hc, hn⟩
  · exact e
  · rw [get i hi] at hc
    exact absurd (UInt8.toNat_inj.1 (by have : (48 : UInt8).toNat = 48 := rfl; omega)) (hz i hi)
theorem next1_odd (s : ByteArray) (w : World) (hs : s.size ≤ 4294967296) (hb : isB s = false) :
    Calls Tryd.prog 18 #[.string s] w fun e w' => e = .returned (.tuple #[.string ⟨#[]⟩, .bool false]) ∧ w = w' := by
  have H1 := Lib.hid (is1 s w hs false hb.symm)
  clear hb
  go_enter Tryd.func18, Tryd.ntmps18
  go_wp2_with fail
  refine H1.out.mono ?_; rintro e w' ⟨rfl, rfl⟩
  go_wp2_with fail
  go_ret2
  exact ⟨rfl, rfl⟩
set_option maxHeartbeats 1000000 in
theorem next1_up (s : ByteArray) (w : World) (hs : s.size ≤ 1024) (hb : isB s = true) (k : Nat) (hk : k < s.size) (h48 : s[k] = 48) (hz : ∀ j (h : j < s.size), k < j → s[j] ≠ 48) :
    Calls Tryd.prog 18 #[.string s] w fun e w' => e = .returned (.tuple #[.string (upB s k), .bool true]) ∧ Below w.heap.size w w' := by
  have H1 := Lib.hid (is1 s w (by omega) true hb.symm)
  have HL := Lib.hid (last_at s k hk h48 hz)
  obtain ⟨z, hzz⟩ : ∃ z, z = rep 48 (s.size - k - 1) := ⟨_, rfl⟩
  have z1 : z.size ≤ 1024 := by rw [hzz, rep_size]; omega
  have HZ := Lib.hid hzz
  clear hb hz h48 hzz
  go_enter Tryd.func18, Tryd.ntmps18
  go_wp2_with fail
  refine H1.out.mono ?_; rintro e w' ⟨rfl, rfl⟩
  go_wp2_with fail
  refine (Tryd.strings_LastIndexByte s 48 (by omega) _).mono ?_; rintro e w' ⟨rfl, rfl⟩
  rw [HL.out]
  go_wp2_with fail
  have hwA : IntKind.i64.wrap ((s.size : Int) - (k : Int)) = (s.size : Int) - (k : Int) := by rw [IntWalk.i64_in _ (by omega)]
  have hwB : IntKind.i64.wrap ((s.size : Int) - (k : Int) - 1) = (s.size : Int) - (k : Int) - 1 := by rw [IntWalk.i64_in _ (by omega)]
  have HR := Lib.hid (fun (W : World) => rep1 48 (s.size - k - 1) W (by omega) ((s.size : Int) - (k : Int) - 1) (by omega) z HZ.out)
  go_region_with ((go_at_call 30; refine (HR.out _).mono ?_; rintro e w2 ⟨rfl, hb2⟩))
  all_goals
    have HB := Lib.hid hb2
    clear hb2 hwA hwB HR
    go_wp2
    go_ret2
    refine ⟨by rw [upB, ← HZ.out]; rfl, ?_⟩
    first
      | exact HB.out
      | exact HB.out.drew
      | exact (Below.refl _ _).drew.trans (HB.out.mono (Nat.le_refl _))
      | exact ((Below.refl _ _).drew.trans (HB.out.mono (Nat.le_refl _))).drew
theorem next1_full (s : ByteArray) (w : World) (hs1 : 1024 ≤ s.size) (hs : s.size ≤ 1024) (hb : isB s = true) (hz : ∀ j (h : j < s.size), s[j] ≠ 48) :
    Calls Tryd.prog 18 #[.string s] w fun e w' => e = .returned (.tuple #[.string ⟨#[]⟩, .bool false]) ∧ w = w' := by
  have H1 := Lib.hid (is1 s w (by omega) true hb.symm)
  have HL := Lib.hid (last_no s hz)
  clear hb hz
  go_enter Tryd.func18, Tryd.ntmps18
  go_wp2_with fail
  refine H1.out.mono ?_; rintro e w' ⟨rfl, rfl⟩
  go_wp2_with fail
  refine (Tryd.strings_LastIndexByte s 48 (by omega) _).mono ?_; rintro e w' ⟨rfl, rfl⟩
  rw [HL.out]
  go_wp2_with fail
  go_ret2
  exact ⟨rfl, rfl⟩
theorem next1_more (s : ByteArray) (w : World) (hs : s.size ≤ 1023) (hb : isB s = true) (hz : ∀ j (h : j < s.size), s[j] ≠ 48) :
    Calls Tryd.prog 18 #[.string s] w fun e w' => e = .returned (.tuple #[.string (rep 48 (s.size + 1)), .bool true]) ∧ Below w.heap.size w w' := by
  have H1 := Lib.hid (is1 s w (by omega) true hb.symm)
  have HL := Lib.hid (last_no s hz)
  obtain ⟨z, hzz⟩ : ∃ z, z = rep 48 (s.size + 1) := ⟨_, rfl⟩
  have z1 : z.size ≤ 1024 := by rw [hzz, rep_size]; omega
  have HZ := Lib.hid hzz
  clear hb hz hzz
  go_enter Tryd.func18, Tryd.ntmps18
  go_wp2_with fail
  refine H1.out.mono ?_; rintro e w' ⟨rfl, rfl⟩
  go_wp2_with fail
  refine (Tryd.strings_LastIndexByte s 48 (by omega) _).mono ?_; rintro e w' ⟨rfl, rfl⟩
  rw [HL.out]
  go_wp2_with fail
  refine (rep1 48 (s.size + 1) _ (by omega) _ (by omega) z HZ.out).mono ?_; rintro e w' ⟨rfl, hb⟩
  have HB := Lib.hid hb
  clear hb
  go_wp2_with fail
  go_ret2
  exact ⟨by rw [← HZ.out]; rfl, HB.out⟩
end Go.Proofs.BT
