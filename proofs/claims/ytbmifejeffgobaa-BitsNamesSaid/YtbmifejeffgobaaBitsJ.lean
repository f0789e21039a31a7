/- Strings of bits: a number as bits: the document's Of. -/
import Derived.Test.YtbmifejeffgobaaBitsI
import Derived.Laws.IdiomStrings
namespace Go.Proofs.BT
open Go.RowKit
open Go.Proofs
open Go
set_option linter.unusedVariables false
set_option linter.unusedSimpArgs false

/-- what Of answers: the string, or that there is none -/
def ofPost (c : Bool) (z : ByteArray) (w : World) (e : Ending) (w' : World) : Prop := e = .returned (if c then .tuple #[.string z, .int .i64 0] else .tuple #[.string ⟨#[]⟩, .int .i64 1]) ∧ Below w.heap.size w w'
set_option maxHeartbeats 1000000 in
theorem of2_any (n wd : Nat) (w : World) (h : wd ≤ 64) (hn : n < 18446744073709551616) (c : Bool) (hc : c = decide (n / 2 ^ wd = 0)) (z : ByteArray) (hz : z = ofB n wd) :
    Calls Try.prog 10 #[.int .u64 (n : Int), .int .i64 (wd : Int)] w (ofPost c z w) := by
  have HZ := Lib.hid hz
  have HC := Lib.hid hc
  clear hz hc
  go_enter Try.func10, Try.ntmps10
  go_wp2_with fail
  go_loopw [0, 6, 7] (fun s0 s6 s7 wr => ∃ (i m : Nat) (b : ByteArray), s0 = .int .u64 m ∧ s6 = .string b ∧ s7 = .int .i64 i ∧ i ≤ wd ∧ m < 18446744073709551616 ∧ b.size ≤ i ∧ Hid (m = n / 2 ^ i) ∧ Hid (b = ofB n i) ∧ Below w.heap.size w wr) (fun _ _ s _ => wd - (intOf s).toNat)
  case atStart => exact ⟨0, n, ⟨#[]⟩, rfl, rfl, rfl, by omega, hn, by decide, by simp [Hid], rfl, Below.refl _ _⟩
  case round =>
    obtain ⟨i, m, b, rfl, rfl, rfl, hi, hm, hbs, HM, HB, hb⟩ := hrel
    by_cases hlt : i < wd
    · have HB2 := Lib.hid (show (⟨#[bitB n i]⟩ : ByteArray) ++ b = ofB n (i + 1) by rw [HB.out]; exact ofB_succ n i)
      have HM2 := Lib.hid (show m / 2 = n / 2 ^ (i + 1) by rw [HM.out, half])
      have hdv : m / 2 < 18446744073709551616 := by omega
      have hbit : bitB n i = if m % 2 = 1 then 49 else 48 := by rw [bitB, ← HM.out]
      have hv : (48 : Int) + (m : Int) % 2 = (((bitB n i).toNat : Nat) : Int) := by
        rw [hbit]
        rcases Nat.mod_two_eq_zero_or_one m with h0 | h0
        · have : (m : Int) % 2 = 0 := by omega
          rw [this, h0]; rfl
        · have : (m : Int) % 2 = 1 := by omega
          rw [this, h0]; rfl
      have hcv : ∀ (W : World), (convert 43 9 (.slice (some ⟨W.heap.size, 0, none⟩) 1 1)).run Try.prog (W.alloc (.cells #[.int .u8 (48 + (m : Int) % 2)] 5)) = .ok (.string ⟨#[bitB n i]⟩) (W.alloc (.cells #[.int .u8 (48 + (m : Int) % 2)] 5)) := fun W => by
        rw [hv]
        exact run_convert_bytes_back (P := Try.prog) _ 43 9 5 ⟨W.heap.size, 0, none⟩ 1 [bitB n i] Try.underlying43 Try.underlying5 Try.underlying9 (fun j hj => by
          obtain rfl : j = 0 := by simpa using hj
          rw [addP]
          simp)
      have HCV := Lib.hid hcv
      have hs1 : (⟨#[bitB n i]⟩ : ByteArray).size = 1 := rfl
      have HS1 := Lib.hid (show (⟨#[bitB n i]⟩ ++ b : ByteArray).size = 1 + b.size by rw [ByteArray.size_append]; rfl)
      have HHB := Lib.hid hb
      clear hcv hbit HB HM hb hs1 hv
      go_wp2_with (rw [HCV.out])
      refine ⟨⟨i + 1, m / 2, _, W.val_int (by omega), rfl, by go_num, by omega, hdv, by rw [HS1.out]; omega, HM2, HB2, HHB.out.alloc HHB.out.size _⟩, ?_⟩
      simp [intOf]; omega
    · obtain rfl : i = wd := by omega
      have e := Lib.hid (show b = z by rw [HB.out, HZ.out])
      by_cases h0 : m = 0
      · have e2 := Lib.hid (show c = true by rw [HC.out, decide_eq_true_eq, ← HM.out]; exact h0)
        subst h0
        clear HM HB HZ HC
        go_wp2_with fail
        go_ret2
        exact ⟨by rw [e2.out, ← e.out]; rfl, hb⟩
      · have e2 := Lib.hid (show c = false by rw [HC.out, decide_eq_false_iff_not, ← HM.out]; exact h0)
        have h1 : 0 < m := by omega
        clear HM HB HZ HC h0
        go_wp2_with fail
        go_ret2
        exact ⟨by rw [e2.out]; rfl, hb⟩
end Go.Proofs.BT
