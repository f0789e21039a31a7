/- Strings of bits: a number as bits. -/
import Derived.Test.YticickjnlkbkoaaBitsG
import Derived.Test.YticickjnlkbkoaaMN
import Derived.Laws.IdiomStrings
namespace Go.Proofs.BT
open Go.RowKit
open Go.Proofs
open Go
set_option linter.unusedVariables false
set_option linter.unusedSimpArgs false
set_option maxRecDepth 100000
/-- a bit of a number, as a byte; its lowest bits as bytes -/
def bitB (n i : Nat) : UInt8 := if n / 2 ^ i % 2 = 1 then 49 else 48
def lowL (n : Nat) : Nat → List UInt8
  | 0 => []
  | i + 1 => bitB n i :: lowL n i
theorem lowL_len (n : Nat) : ∀ i, (lowL n i).length = i
  | 0 => rfl
  | i + 1 => by rw [lowL, List.length_cons, lowL_len n i]
def ofB (n w : Nat) : ByteArray := ⟨(lowL n w).toArray⟩
theorem ofB_size (n w : Nat) : (ofB n w).size = w := by simp [ofB, ByteArray.size, lowL_len]
theorem half (n i : Nat) : n / 2 ^ i / 2 = n / 2 ^ (i + 1) := by rw [Nat.div_div_eq_div_mul, Nat.pow_succ]
theorem ofB_succ (n i : Nat) : (⟨#[bitB n i]⟩ : ByteArray) ++ ofB n i = ofB n (i + 1) := by
  apply ByteArray.ext
  rw [ByteArray.data_append]
  simp only [ofB, lowL]
  apply Array.ext'
  simp
theorem big_zero (n : Nat) (h : n < 18446744073709551616) (w : Nat) (hw : 64 ≤ w) : n / 2 ^ w = 0 := by
  apply Nat.div_eq_of_lt
  have : 2 ^ 64 ≤ 2 ^ w := Nat.pow_le_pow_right (by decide) hw
  omega
/-- refused: the width -/
theorem of1_no (n : Nat) (wd : Int) (w : World) (h : wd < 0 ∨ 64 < wd) (hn : n < 18446744073709551616) :
    Calls Try.prog 56 #[.int .u64 (n : Int), .int .i64 wd] w fun e w' => e = .returned (.tuple #[.string ⟨#[]⟩, .int .i64 1]) ∧ w = w' := by
  rcases h with h | h
  · go_enter Try.func56, Try.ntmps56
    go_wp2_with fail
    go_ret2
    exact ⟨rfl, rfl⟩
  · have h1 : ¬ wd < 0 := by omega
    go_enter Try.func56, Try.ntmps56
    go_wp2_with fail
    go_ret2
    exact ⟨rfl, rfl⟩
/-- refused: the number -/
theorem of1_big (n wd : Nat) (w : World) (h : wd ≤ 64) (hn : n < 18446744073709551616) (hb : ¬ n / 2 ^ wd = 0) :
    Calls Try.prog 56 #[.int .u64 (n : Int), .int .i64 (wd : Int)] w fun e w' => e = .returned (.tuple #[.string ⟨#[]⟩, .int .i64 1]) ∧ w = w' := by
  have h64 : wd < 64 := by
    rcases Nat.lt_or_ge wd 64 with h' | h'
    · exact h'
    · exact absurd (big_zero n hn wd h') hb
  have h2 : ¬ (n : Int) / 2 ^ wd = 0 := by
    have : (n : Int) / 2 ^ wd = ((n / 2 ^ wd : Nat) : Int) := by simp
    rw [this]; omega
  have h3 : (((n : Int) / 2 ^ wd) != 0) = true := by simpa using h2
  clear hb
  go_enter Try.func56, Try.ntmps56
  go_wp2_with fail
  go_ret2
  exact ⟨rfl, rfl⟩
/-- a byte in its cell -/
def enc8 (b : UInt8) : Value := .int .u8 (b.toNat : Int)
theorem Try.info5 : (Try.prog.info? 5).map (fun i => (i.zero, i.size, i.bytes)) = some (some (.int .u8 0), 1, 1) := by kernel_rfl
theorem addP (b j : Nat) : (⟨b, 0, none⟩ : Addr).add j = ⟨b, j, none⟩ := by cases j <;> simp [Addr.add]
theorem drop_set {α : Type} (os : List α) (j : Nat) (v : α) (h : j < os.length) : (os.set j v).drop j = v :: os.drop (j + 1) := by
  rw [List.drop_eq_getElem_cons (by simpa using h)]
  simp [List.drop_set]
theorem bit8 (m : Nat) (h : m < 18446744073709551616) : (48 + Go.bits BinOp.and IntKind.u64 (m : Int) 1) % 256 = (((if m % 2 = 1 then 49 else 48 : UInt8).toNat : Nat) : Int) := by
  have e := bits_and_u64_nat m 1 h (by decide)
  rw [Nat.and_one_is_mod] at e
  have e' : Go.bits BinOp.and IntKind.u64 (m : Int) 1 = ((m % 2 : Nat) : Int) := e
  rw [e']
  rcases Nat.mod_two_eq_zero_or_one m with h0 | h0 <;> rw [h0] <;> decide +kernel
set_option maxHeartbeats 1000000 in
theorem of1_ok (n wd : Nat) (w : World) (h : wd ≤ 64) (hn : n < 18446744073709551616) (hb : n / 2 ^ wd = 0) (z : ByteArray) (hz : z = ofB n wd) :
    Calls Try.prog 56 #[.int .u64 (n : Int), .int .i64 (wd : Int)] w fun e w' => e = .returned (.tuple #[.string z, .int .i64 0]) ∧ Below w.heap.size w w' := by
  obtain ⟨i0, hi, hz0, hz1, hz2⟩ := info_parts Try.info5
  obtain ⟨wm, hmk, hown0, hgr0⟩ := run_make_full (P := Try.prog) w w.heap.size 117 5 i0 (.int .u8 0) 1 Try.underlying117 hi hz0 hz1 .i64 .i64 wd (by rw [hz2]; omega) (by unfold maxLen; omega) (Nat.le_refl _)
  rw [Nat.mul_one, show (Value.int .u8 0).cells = #[Value.int .u8 0] from rfl, toList_madeCells_one] at hown0
  have hb0 : Below w.heap.size w wm := (Below.refl _ _).grown hgr0 (Nat.le_refl _) (fun k hk => by cases hk)
  have HM := Lib.hid hmk
  have HZ := Lib.hid hz
  have HN := Lib.hid hb
  have h3 : wd < 64 → ((n : Int) / 2 ^ wd != 0) = false := fun _ => by
    have : (n : Int) / 2 ^ wd = ((n / 2 ^ wd : Nat) : Int) := by simp
    rw [this, hb]; rfl
  clear hmk hz hb hgr0 hi hz0 hz1 hz2
  by_cases h4 : wd < 64
  · have h5 := h3 h4
    clear h3
    go_enter Try.func56, Try.ntmps56
    go_wp2_with (rw [HM.out])
    go_loopw [0, 7] (fun s2 s7 wr => ∃ (k m : Nat) (os : List Value), s2 = .int .u64 m ∧ s7 = .int .i64 ((k : Int) - 1) ∧ k ≤ wd ∧ m < 18446744073709551616 ∧ os.length = wd ∧ Hid (m = n / 2 ^ (wd - k)) ∧ Hid (os.drop k = (lowL n (wd - k)).map enc8) ∧ wr.ownsRow w.heap.size 5 1 (.slice (some ⟨w.heap.size, 0, none⟩) wd wd) wd os ∧ Below w.heap.size w wr) (fun _ s _ => (intOf s + 1).toNat)
    case atStart => exact ⟨wd, n, _, rfl, rfl, by omega, hn, by simp, by simp [Hid], by simp [Hid, lowL], hown0, hb0⟩
    case round =>
      obtain ⟨k, m, os, rfl, rfl, hk, hm, hol, HMM, HO, ho, hb⟩ := hrel
      cases k with
      | zero =>
        have hcv : (convert 117 9 (.slice (some ⟨w.heap.size, 0, none⟩) wd wd)).run Try.prog wr = .ok (.string z) wr := by
          have h1 := HO.out
          rw [List.drop_zero, Nat.sub_zero] at h1
          have := run_convert_bytes_back (P := Try.prog) wr 117 9 5 ⟨w.heap.size, 0, none⟩ wd (lowL n wd) Try.underlying117 Try.underlying5 Try.underlying9 (fun j hj => by
            rw [addP, ho.cellAt j (by rw [lowL_len] at hj; omega), h1]
            simp [hj, enc8])
          rw [lowL_len] at this
          rw [HZ.out, ofB]; exact this
        have HC := Lib.hid hcv
        have HB := Lib.hid hb
        clear hcv ho hb HO HMM hown0 hb0
        go_wp2_with (rw [HC.out])
        go_ret2
        exact ⟨rfl, HB.out⟩
      | succ j =>
        rw [show ((j + 1 : Nat) : Int) - 1 = (j : Int) by omega]
        have co := ho.cellAt j (by omega)
        have cf := ho.frozenAt j
        obtain ⟨vj, hvj⟩ : ∃ v, os[j]? = some v := ⟨_, List.getElem?_eq_getElem (by omega)⟩
        rw [hvj] at co
        have HV := Lib.hid (bit8 m hm)
        have hst := (ho.stored j (.int .u8 ((((if m % 2 = 1 then 49 else 48 : UInt8).toNat : Nat) : Int))))
        have HS := Lib.hid hst
        have HB := Lib.hid hb
        have hdv : m / 2 < 18446744073709551616 := by omega
        have HM2 := Lib.hid (show m / 2 = n / 2 ^ (wd - j) by
          rw [HMM.out, half]; congr 2; omega)
        have HO2 := Lib.hid (show (os.set j (.int .u8 ((((if m % 2 = 1 then 49 else 48 : UInt8).toNat : Nat) : Int)))).drop j = (lowL n (wd - j)).map enc8 by
          rw [drop_set _ _ _ (by omega), HO.out, show wd - j = (wd - (j + 1)) + 1 by omega, lowL, List.map_cons, bitB, ← HMM.out]; rfl)
        clear hst ho hb HO HMM hvj hown0 hb0
        go_wp2_with fail
        rw [HV.out]
        refine ⟨⟨j, m / 2, _, W.val_int (by omega), rfl, by omega, hdv, by rw [List.length_set]; exact hol, HM2, HO2, HS.out.1, HB.out.setCell (p := ⟨w.heap.size, j, none⟩) (Nat.le_refl _) _⟩, ?_⟩
        simp [intOf]
  · clear h3
    go_enter Try.func56, Try.ntmps56
    go_wp2_with (rw [HM.out])
    go_loopw [0, 7] (fun s2 s7 wr => ∃ (k m : Nat) (os : List Value), s2 = .int .u64 m ∧ s7 = .int .i64 ((k : Int) - 1) ∧ k ≤ wd ∧ m < 18446744073709551616 ∧ os.length = wd ∧ Hid (m = n / 2 ^ (wd - k)) ∧ Hid (os.drop k = (lowL n (wd - k)).map enc8) ∧ wr.ownsRow w.heap.size 5 1 (.slice (some ⟨w.heap.size, 0, none⟩) wd wd) wd os ∧ Below w.heap.size w wr) (fun _ s _ => (intOf s + 1).toNat)
    case atStart => exact ⟨wd, n, _, rfl, rfl, by omega, hn, by simp, by simp [Hid], by simp [Hid, lowL], hown0, hb0⟩
    case round =>
      obtain ⟨k, m, os, rfl, rfl, hk, hm, hol, HMM, HO, ho, hb⟩ := hrel
      cases k with
      | zero =>
        have hcv : (convert 117 9 (.slice (some ⟨w.heap.size, 0, none⟩) wd wd)).run Try.prog wr = .ok (.string z) wr := by
          have h1 := HO.out
          rw [List.drop_zero, Nat.sub_zero] at h1
          have := run_convert_bytes_back (P := Try.prog) wr 117 9 5 ⟨w.heap.size, 0, none⟩ wd (lowL n wd) Try.underlying117 Try.underlying5 Try.underlying9 (fun j hj => by
            rw [addP, ho.cellAt j (by rw [lowL_len] at hj; omega), h1]
            simp [hj, enc8])
          rw [lowL_len] at this
          rw [HZ.out, ofB]; exact this
        have HC := Lib.hid hcv
        have HB := Lib.hid hb
        clear hcv ho hb HO HMM hown0 hb0
        go_wp2_with (rw [HC.out])
        go_ret2
        exact ⟨rfl, HB.out⟩
      | succ j =>
        rw [show ((j + 1 : Nat) : Int) - 1 = (j : Int) by omega]
        have co := ho.cellAt j (by omega)
        have cf := ho.frozenAt j
        obtain ⟨vj, hvj⟩ : ∃ v, os[j]? = some v := ⟨_, List.getElem?_eq_getElem (by omega)⟩
        rw [hvj] at co
        have HV := Lib.hid (bit8 m hm)
        have hst := (ho.stored j (.int .u8 ((((if m % 2 = 1 then 49 else 48 : UInt8).toNat : Nat) : Int))))
        have HS := Lib.hid hst
        have HB := Lib.hid hb
        have hdv : m / 2 < 18446744073709551616 := by omega
        have HM2 := Lib.hid (show m / 2 = n / 2 ^ (wd - j) by
          rw [HMM.out, half]; congr 2; omega)
        have HO2 := Lib.hid (show (os.set j (.int .u8 ((((if m % 2 = 1 then 49 else 48 : UInt8).toNat : Nat) : Int)))).drop j = (lowL n (wd - j)).map enc8 by
          rw [drop_set _ _ _ (by omega), HO.out, show wd - j = (wd - (j + 1)) + 1 by omega, lowL, List.map_cons, bitB, ← HMM.out]; rfl)
        clear hst ho hb HO HMM hvj hown0 hb0
        go_wp2_with fail
        rw [HV.out]
        refine ⟨⟨j, m / 2, _, W.val_int (by omega), rfl, by omega, hdv, by rw [List.length_set]; exact hol, HM2, HO2, HS.out.1, HB.out.setCell (p := ⟨w.heap.size, j, none⟩) (Nat.le_refl _) _⟩, ?_⟩
        simp [intOf]
end Go.Proofs.BT
