/- Cursors: Take of the program and of the document's answer. -/
import Derived.Test.YticickjnlkbkoaaGreatBelA
import Derived.Test.YticickjnlkbkoaaGreatBitsG
import Derived.Deep.QuietTactic
import Derived.BigQuiet
namespace Go.Proofs.BL
open Go.RowKit
open Go.Proofs
open Go.Proofs.BT
open Go.Proofs.SL
open Go
set_option linter.unusedVariables false
set_option maxRecDepth 20000
set_option linter.unusedSimpArgs false
theorem grown_drew {W W' : World} {row : Option Nat} (n : Nat) (h : (W.drewN n).grownBy W' row) : W.grownBy W' row := by
  have hb := below_drewN (Below.refl W.heap.size W) n
  exact ⟨h.os.trans hb.os, h.tape.trans hb.tape, h.output.trans hb.output, Nat.le_trans hb.size h.size, fun k hk hne => (h.block k (Nat.lt_of_lt_of_le hk hb.size) hne).trans (hb.block k hk)⟩
theorem or2z (n : Nat) (h : n < 9223372036854775808) : Go.bits BinOp.or IntKind.u64 (2 * (n : Int)) 0 = ((2 * n : Nat) : Int) := by
  have j := W.u64_or_join n 0 1 (by decide) (by omega)
  rw [Int.mul_comm 2]
  simpa [Nat.mul_comm] using j
theorem or2o (n : Nat) (h : n < 9223372036854775808) : Go.bits BinOp.or IntKind.u64 (2 * (n : Int)) 1 = ((2 * n + 1 : Nat) : Int) := by
  have j := W.u64_or_join n 1 1 (by decide) (by omega)
  rw [Int.mul_comm 2]
  simpa [Nat.mul_comm] using j
theorem numA_next' {s : ByteArray} (h : BT.bits s = true) (a i j : Nat) (hj : a + i = j) (hi : j < s.size) : (((s[j].toNat : Nat) : Int) = 48 ∧ numA s a (i + 1) = 2 * numA s a i) ∨ (((s[j].toNat : Nat) : Int) = 49 ∧ numA s a (i + 1) = 2 * numA s a i + 1) := by
  subst hj; exact numA_next h a i hi
theorem take1_nil (n : Int) (w : World) :
    Calls Tryz.prog 36 #[.pointer none, .int .i64 n] w fun e w' => e = .returned (.tuple #[.int .u64 0, .bool false]) ∧ w = w' := by
  go_enter Tryz.func36, Tryz.ntmps36
  go_wp2_with fail
  go_ret2
  exact ⟨rfl, rfl⟩
theorem take1_over (b a n : Nat) (s : ByteArray) (w : World) (h : Cp w b s a true) (hn : n ≤ 64) :
    Calls Tryz.prog 36 #[.pointer (some ⟨b, 0, none⟩), .int .i64 (n : Int)] w fun e w' => e = .returned (.tuple #[.int .u64 0, .bool false]) ∧ w = w' := by
  have c2 := h.c2
  clear h
  go_enter Tryz.func36, Tryz.ntmps36
  go_wp2_with fail
  go_ret2
  exact ⟨rfl, rfl⟩
theorem take1_none (b a n : Nat) (s : ByteArray) (w : World) (h : Cp w b s a false) (hn : n ≤ 64) (hs : s.size ≤ 4294967296) (ha : a ≤ s.size) (hlt : s.size < a + n) :
    Calls Tryz.prog 36 #[.pointer (some ⟨b, 0, none⟩), .int .i64 (n : Int)] w fun e w' => e = .returned (.tuple #[.int .u64 0, .bool false]) ∧ Cp w' b s a true ∧ w.grownBy w' (some b) := by
  have c2 := h.c2
  have fr := h.fr 2
  have HH := Lib.hid h
  have HL := Lib.hid (left1 b a s false w h ha hs _ rfl)
  clear h
  go_enter Tryz.func36, Tryz.ntmps36
  go_wp2_with fail
  refine HL.out.mono ?_; rintro e w' ⟨rfl, nd, rfl⟩
  have h2 := (HH.out.dr nd)
  have c22 := h2.c2
  have fr2 := h2.fr 2
  have HF := Lib.hid (show Cp ((w.drewN nd).setCell ⟨b, 2, none⟩ (.bool true)) b s a true ∧ w.grownBy ((w.drewN nd).setCell ⟨b, 2, none⟩ (.bool true)) (some b) from ⟨h2.set2 true, grown_drew nd (grown_set _ b 2 _)⟩)
  clear HH h2 c2 fr
  go_wp2_with fail
  go_ret2
  exact ⟨rfl, HF.out⟩
theorem take1_ok (b a n : Nat) (s : ByteArray) (w : World) (h : Cp w b s a false) (hn : n ≤ 64) (hs : s.size ≤ 4294967296) (hb : BT.bits s = true) (hlt : a + n ≤ s.size) (z : Nat) (hz : z = numA s a n) :
    Calls Tryz.prog 36 #[.pointer (some ⟨b, 0, none⟩), .int .i64 (n : Int)] w fun e w' => e = .returned (.tuple #[.int .u64 (z : Nat), .bool true]) ∧ Cp w' b s (a + n) false ∧ w.grownBy w' (some b) := by
  have c2 := h.c2
  have HH := Lib.hid h
  have HZ := Lib.hid hz
  have HB := Lib.hid hb
  have HL := Lib.hid (left1 b a s false w h (by omega) hs _ rfl)
  clear h hz hb
  go_enter Tryz.func36, Tryz.ntmps36
  go_wp2_with fail
  refine HL.out.mono ?_; rintro e w' ⟨rfl, nd, rfl⟩
  go_wp2_with fail
  go_loopw [4, 27] (fun s4 s27 wr => ∃ i x q : Nat, s4 = .int .u64 (x : Int) ∧ s27 = .int .i64 (i : Int) ∧ i ≤ n ∧ Hid (x = numA s a i) ∧ w.drewN q = wr) (fun _ v _ => n - (intOf v).toNat)
  case atStart => exact ⟨0, 0, nd, rfl, rfl, by omega, rfl, rfl⟩
  case round =>
    obtain ⟨i, x, q, rfl, rfl, hi, HN, rfl⟩ := hrel
    have d0 := HH.out.c0
    have d1 := HH.out.c1
    by_cases hlt2 : i < n
    · have hx : x < 9223372036854775808 := by rw [HN.out]; exact numA_63 s a i (by omega)
      obtain ⟨j, hj⟩ : ∃ j, a + i = j := ⟨_, rfl⟩
      have hi1 : j < s.size := by omega
      have hnx := numA_next' HB.out a i j hj hi1
      have hw : IntKind.i64.wrap ((a : Int) + (i : Int)) = (j : Int) := by rw [IntKind.wrap_i64]; omega
      have hw2 : IntKind.u64.wrap ((x : Int) * 2) = (((2 * x : Nat)) : Int) := by rw [IntKind.wrap_u64]; omega
      have hji : (j : Int) < (s.size : Int) := by omega
      have hj0 : ¬ ((j : Int) < 0) := by omega
      clear hj
      rcases hnx with ⟨h1, h2⟩ | ⟨h1, h2⟩
      · have HN2 := Lib.hid (show 2 * x = numA s a (i + 1) by rw [h2, HN.out])
        clear h2 HN
        go_wp2_with fail
        go_quiet (fail)
        go_wp2_with fail
        refine ⟨⟨i + 1, 2 * x, q + nq, by rw [or2z x hx], by simp, by omega, HN2, rfl⟩, ?_⟩
        simp [intOf]; omega
      · have HN2 := Lib.hid (show 2 * x + 1 = numA s a (i + 1) by rw [h2, HN.out])
        clear h2 HN
        go_wp2_with fail
        go_quiet (fail)
        go_wp2_with fail
        refine ⟨⟨i + 1, 2 * x + 1, q + nq, by rw [or2o x hx], by simp, by omega, HN2, rfl⟩, ?_⟩
        simp [intOf]; omega
    · obtain rfl : i = n := by omega
      obtain rfl : x = z := by rw [HN.out, HZ.out]
      have hw : IntKind.i64.wrap ((a : Int) + (i : Int)) = ((a + i : Nat) : Int) := by rw [IntKind.wrap_i64]; omega
      have fr1 := HH.out.fr 1
      clear HN HZ
      go_wp2_with fail
      go_ret2
      exact ⟨rfl, (HH.out.dr q).set1 (a + i) _ (by omega), grown_drew q (grown_set _ b 1 _)⟩
end Go.Proofs.BL
