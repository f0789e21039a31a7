/- Strings of bits: strings and numbers at their ends. -/
import Derived.Test.YtbmifejeffgobaaBitsQ
namespace Go.Proofs.BT
open Go.RowKit
open Go.Proofs
open Go
set_option linter.unusedVariables false
set_option linter.unusedSimpArgs false
theorem rep_get (b : UInt8) (n j : Nat) (h : j < (rep b n).size) : (rep b n)[j] = b := by
  have : (rep b n)[j] = (List.replicate n b).toArray[j]'(by simpa [rep_size] using h) := rfl
  rw [this]; simp
theorem rep_bits (b : UInt8) (n : Nat) (hb : bit1 b = true) : BT.bits (rep b n) = true := bits_of _ (fun j h => by rw [rep_get]; exact hb)
theorem rep_is (b : UInt8) (n : Nat) (hb : bit1 b = true) (hn : n ≤ 1024) : isB (rep b n) = true := by
  rw [isB, rep_bits b n hb, rep_size]; simp [hn]
theorem rep_ext (b : UInt8) (n i j : Nat) (h : i ≤ j) (hj : j ≤ n) : (rep b n).extract i j = rep b (j - i) := by
  apply ByteArray.ext
  rw [ByteArray.data_extract]
  simp only [rep]
  apply Array.ext'
  simp
  omega
theorem nx_full : Ret 15 #[.string (rep 49 1024)] (.tuple #[.string ⟨#[]⟩, .bool false]) :=
  .of fun w => next1_full _ w (by rw [rep_size]; omega) (by rw [rep_size]; omega) (rep_is _ _ (by decide) (by omega)) (fun j h => by rw [rep_get]; decide)
theorem nx_more : Ret 15 #[.string (rep 49 1023)] (.tuple #[.string (rep 48 1024), .bool true]) :=
  Ret.eq (fun w => next1_more (rep 49 1023) w (by rw [rep_size]; omega) (rep_is _ _ (by decide) (by omega)) (fun j h => by rw [rep_get]; decide)) (by rw [rep_size])
theorem nx_long : Ret 15 #[.string (rep 49 1025)] (.tuple #[.string ⟨#[]⟩, .bool false]) :=
  .of fun w => next1_odd _ w (by rw [rep_size]; omega) (by rw [isB, rep_size]; rfl)
theorem nx_two : Ret 15 #[.string ⟨#[50]⟩] (.tuple #[.string ⟨#[]⟩, .bool false]) :=
  .of fun w => next1_odd _ w (by decide) (by decide +kernel)
theorem nu_64 : Ret 7 #[.string (rep 49 64)] (.tuple #[.int .u64 18446744073709551615, .int .i64 0]) :=
  .of fun w => num1 (rep 49 64) w (by rw [rep_size]; omega) (rep_is _ _ (by decide) (by omega)) 18446744073709551615 (by decide +kernel)
theorem nu_65 : Ret 7 #[.string (rep 49 65)] (.tuple #[.int .u64 0, .int .i64 5]) :=
  .of fun w => num1_long (rep 49 65) w (by rw [rep_size]; omega) (by rw [rep_size]; omega) (rep_is _ _ (by decide) (by omega))
theorem nu_form : Ret 7 #[.string ⟨#[48, 32]⟩] (.tuple #[.int .u64 0, .int .i64 3]) :=
  .of fun w => num1_form _ w (by decide) (by decide +kernel)
theorem of_64 : Ret 9 #[.int .u64 18446744073709551615, .int .i64 64] (.tuple #[.string (rep 49 64), .int .i64 0]) :=
  fun w => of1_ok 18446744073709551615 64 w (by decide) (by decide) (by decide) (rep 49 64) (by decide +kernel)
theorem of_63 : Ret 9 #[.int .u64 9223372036854775808, .int .i64 63] (.tuple #[.string ⟨#[]⟩, .int .i64 1]) :=
  .of fun w => of1_big 9223372036854775808 63 w (by decide) (by decide) (by decide)
theorem of_65 : Ret 9 #[.int .u64 0, .int .i64 65] (.tuple #[.string ⟨#[]⟩, .int .i64 1]) :=
  .of fun w => of1_no 0 65 w (by decide) (by decide)
theorem of_m1 : Ret 9 #[.int .u64 0, .int .i64 (-1)] (.tuple #[.string ⟨#[]⟩, .int .i64 1]) :=
  .of fun w => of1_no 0 (-1) w (by decide) (by decide)
theorem of_00 : Ret 9 #[.int .u64 0, .int .i64 0] (.tuple #[.string ⟨#[]⟩, .int .i64 0]) :=
  fun w => of1_ok 0 0 w (by decide) (by decide) (by decide) ⟨#[]⟩ (by decide +kernel)
/-- Cut and Clear at a part -/
theorem part_ok (s : ByteArray) (a k : Nat) (hs : s.size ≤ 1024) (hb : isB s = true) (h1 : 1 ≤ k) (h2 : a + k ≤ s.size) :
    ∃ x y, Ret 17 #[.string s, .int .i64 (a : Int), .int .i64 (k : Int)] (.tuple #[.string x, .int .i64 0]) ∧ Ret 19 #[.string s, .int .i64 (a : Int), .int .i64 (k : Int)] (.tuple #[.string y, .int .i64 0]) :=
  ⟨_, _, .drew fun w => cut1 s a k w (by omega) hb h1 h2, fun w => clear1 s a k w hs hb h1 h2⟩
theorem part_no (s : ByteArray) (a k c : Int) (hs : s.size ≤ 1024) (hc : c = cutE s a k) (h0 : ¬ c = 0) (a0 : -9223372036854775808 ≤ a ∧ a ≤ 9223372036854775807) (k0 : -9223372036854775808 ≤ k ∧ k ≤ 9223372036854775807) :
    ∃ x y, Ret 17 #[.string s, .int .i64 a, .int .i64 k] (.tuple #[.string x, .int .i64 c]) ∧ Ret 19 #[.string s, .int .i64 a, .int .i64 k] (.tuple #[.string y, .int .i64 c]) :=
  ⟨_, _, .of fun w => cut1_no s a k w (by omega) c hc h0 a0 k0, .of fun w => clear1_no s a k w (by omega) c hc h0 a0 k0⟩
/-- the parts that are asked: the text, the place, how many, what is told -/
def askS : Nat → ByteArray
  | 0 => ⟨#[]⟩
  | 1 | 2 | 3 | 4 => ⟨#[49]⟩
  | 10 => ⟨#[49, 97]⟩
  | _ => ⟨#[49, 49]⟩
def askA : Nat → Int
  | 3 => 1
  | 4 => -1
  | 5 => 1
  | 7 => 9223372036854775807
  | 9 => 1
  | _ => 0
def askK : Nat → Int
  | 0 => 0
  | 1 => 0
  | 2 => 1
  | 3 => 1
  | 4 => 1
  | 8 => 9223372036854775807
  | 9 => -9223372036854775808
  | 10 => 1
  | _ => 2
def askE : Nat → Int
  | 2 | 6 => 0
  | 10 => 3
  | _ => 1
theorem ask (i : Nat) (h : i < 11) : ∃ x y, Ret 17 #[.string (askS i), .int .i64 (askA i), .int .i64 (askK i)] (.tuple #[.string x, .int .i64 (askE i)]) ∧ Ret 19 #[.string (askS i), .int .i64 (askA i), .int .i64 (askK i)] (.tuple #[.string y, .int .i64 (askE i)]) := by
  match i, h with
  | 0, _ => exact part_no _ 0 0 1 (by decide) (by decide +kernel) (by decide) (by decide) (by decide)
  | 1, _ => exact part_no _ 0 0 1 (by decide) (by decide +kernel) (by decide) (by decide) (by decide)
  | 2, _ => exact part_ok ⟨#[49]⟩ 0 1 (by decide) (by decide +kernel) (by decide) (by decide)
  | 3, _ => exact part_no _ 1 1 1 (by decide) (by decide +kernel) (by decide) (by decide) (by decide)
  | 4, _ => exact part_no _ (-1) 1 1 (by decide) (by decide +kernel) (by decide) (by decide) (by decide)
  | 5, _ => exact part_no _ 1 2 1 (by decide) (by decide +kernel) (by decide) (by decide) (by decide)
  | 6, _ => exact part_ok ⟨#[49, 49]⟩ 0 2 (by decide) (by decide +kernel) (by decide) (by decide)
  | 7, _ => exact part_no _ 9223372036854775807 2 1 (by decide) (by decide +kernel) (by decide) (by decide) (by decide)
  | 8, _ => exact part_no _ 0 9223372036854775807 1 (by decide) (by decide +kernel) (by decide) (by decide) (by decide)
  | 9, _ => exact part_no _ 1 (-9223372036854775808) 1 (by decide) (by decide +kernel) (by decide) (by decide) (by decide)
  | 10, _ => exact part_no _ 0 1 3 (by decide) (by decide +kernel) (by decide) (by decide) (by decide)
/-- the row of what is asked, as it lies -/
def askC : Array Value := #[.string ⟨#[]⟩, .int .i64 0, .int .i64 0, .int .i64 1, .string ⟨#[49]⟩, .int .i64 0, .int .i64 0, .int .i64 1, .string ⟨#[49]⟩, .int .i64 0, .int .i64 1, .int .i64 0, .string ⟨#[49]⟩, .int .i64 1, .int .i64 1, .int .i64 1, .string ⟨#[49]⟩, .int .i64 (-1), .int .i64 1, .int .i64 1, .string ⟨#[49, 49]⟩, .int .i64 1, .int .i64 2, .int .i64 1, .string ⟨#[49, 49]⟩, .int .i64 0, .int .i64 2, .int .i64 0, .string ⟨#[49, 49]⟩, .int .i64 9223372036854775807, .int .i64 2, .int .i64 1, .string ⟨#[49, 49]⟩, .int .i64 0, .int .i64 9223372036854775807, .int .i64 1, .string ⟨#[49, 49]⟩, .int .i64 1, .int .i64 (-9223372036854775808), .int .i64 1, .string ⟨#[49, 97]⟩, .int .i64 0, .int .i64 1, .int .i64 3]
def tableB (G : Nat) (W : World) : Prop := ∀ i, i < 11 → W.cell? ⟨G, i * 4, none⟩ = some (.string (askS i)) ∧ W.cell? ⟨G, i * 4 + 1, none⟩ = some (.int .i64 (askA i)) ∧ W.cell? ⟨G, i * 4 + 2, none⟩ = some (.int .i64 (askK i)) ∧ W.cell? ⟨G, i * 4 + 3, none⟩ = some (.int .i64 (askE i)) ∧ G < W.heap.size
theorem tableB_new (w : World) (t : TypeId) : tableB w.heap.size (w.alloc (.cells askC t)) := by
  intro i hi
  have c : ∀ j, (w.alloc (.cells askC t)).cell? ⟨w.heap.size, j, none⟩ = askC[j]? := fun j => by
    have := World.alloc_heap_new w (.cells askC t)
    unfold World.cell?
    simp only [this]
    rfl
  rw [c, c, c, c]
  match i, hi with
  | 0, _ | 1, _ | 2, _ | 3, _ | 4, _ | 5, _ | 6, _ | 7, _ | 8, _ | 9, _ | 10, _ => exact ⟨rfl, rfl, rfl, rfl, by simp⟩
theorem tableB.later {G : Nat} {W W' : World} (h : tableB G W) (hb : Below W.heap.size W W') : tableB G W' := fun i hi => by
  obtain ⟨c0, c1, c2, c3, hs⟩ := h i hi
  refine ⟨?_, ?_, ?_, ?_, Nat.lt_of_lt_of_le hs hb.size⟩
  · exact (hb.cell (p := ⟨G, _, none⟩) hs).trans c0
  · exact (hb.cell (p := ⟨G, _, none⟩) hs).trans c1
  · exact (hb.cell (p := ⟨G, _, none⟩) hs).trans c2
  · exact (hb.cell (p := ⟨G, _, none⟩) hs).trans c3
/-- a struct of four cells that lies in block G -/
def structIn (G : Nat) (a b c d : Value) (W : World) : Prop := W.cell? ⟨G, 0, none⟩ = some a ∧ W.cell? ⟨G, 1, none⟩ = some b ∧ W.cell? ⟨G, 2, none⟩ = some c ∧ W.cell? ⟨G, 3, none⟩ = some d ∧ G < W.heap.size
theorem structIn_new (w : World) (t : TypeId) (a b c d : Value) : structIn w.heap.size a b c d (w.alloc (.cells #[a, b, c, d] t)) := by
  have h : ∀ j, (w.alloc (.cells #[a, b, c, d] t)).cell? ⟨w.heap.size, j, none⟩ = #[a, b, c, d][j]? := fun j => by
    have := World.alloc_heap_new w (.cells #[a, b, c, d] t)
    unfold World.cell?
    simp only [this]
    rfl
  exact ⟨h 0, h 1, h 2, h 3, by simp⟩
theorem structIn.later {G : Nat} {a b c d : Value} {W W' : World} (h : structIn G a b c d W) (hb : Below W.heap.size W W') : structIn G a b c d W' := by
  obtain ⟨c0, c1, c2, c3, hs⟩ := h
  exact ⟨(hb.cell (p := ⟨G, _, none⟩) hs).trans c0, (hb.cell (p := ⟨G, _, none⟩) hs).trans c1, (hb.cell (p := ⟨G, _, none⟩) hs).trans c2, (hb.cell (p := ⟨G, _, none⟩) hs).trans c3, Nat.lt_of_lt_of_le hs hb.size⟩
theorem dn_2 : Ret 21 #[.string ⟨#[49, 48]⟩, .int .i64 2] (.tuple #[.string ⟨#[]⟩, .int .i64 1]) :=
  .of fun w => down1_no ⟨#[49, 48]⟩ 2 w (by decide) 1 (by decide +kernel) (by decide) (by decide)
theorem dn_1 : Ret 21 #[.string ⟨#[49, 48]⟩, .int .i64 1] (.tuple #[.string ⟨#[]⟩, .int .i64 1]) :=
  .of fun w => down1_zero ⟨#[49, 48]⟩ 1 w (by decide) (by decide +kernel) (by decide) (by decide)
theorem dn_m1 : Ret 21 #[.string ⟨#[49, 48]⟩, .int .i64 (-1)] (.tuple #[.string ⟨#[]⟩, .int .i64 1]) :=
  .of fun w => down1_no ⟨#[49, 48]⟩ (-1) w (by decide) 1 (by decide +kernel) (by decide) (by decide)
theorem dn_x : Ret 21 #[.string ⟨#[120]⟩, .int .i64 0] (.tuple #[.string ⟨#[]⟩, .int .i64 3]) :=
  .of fun w => down1_no ⟨#[120]⟩ 0 w (by decide) 3 (by decide +kernel) (by decide) (by decide)
theorem dn_val : downB (rep 49 1024) 1023 = rep 49 1023 ++ ⟨#[48]⟩ := by
  rw [downB, rep_ext _ _ _ _ (by omega) (by omega), rep_size, Nat.sub_zero, show 1024 - 1023 - 1 = 0 from rfl, show rep 49 0 = ByteArray.empty from rfl, ByteArray.append_empty]
theorem dn_end : Ret 21 #[.string (rep 49 1024), .int .i64 1023] (.tuple #[.string (rep 49 1023 ++ ⟨#[48]⟩), .int .i64 0]) :=
  Ret.eq (fun w => down1 (rep 49 1024) 1023 w (by rw [rep_size]; omega) (rep_is _ _ (by decide) (by omega)) (by rw [rep_size]; omega) (by rw [rep_get])) (by rw [dn_val])
theorem is_ones : Ret 11 #[.string (rep 49 1024)] (.bool true) := .of fun w => is1 _ w (by rw [rep_size]; omega) true (rep_is _ _ (by decide) (by omega)).symm
theorem is_more : Ret 11 #[.string (rep 49 1025)] (.bool false) := .of fun w => is1 _ w (by rw [rep_size]; omega) false (by rw [isB, rep_size]; rfl)
theorem cm_ba : Ret 13 #[.string ⟨#[98]⟩, .string ⟨#[97]⟩] (.int .i64 1) := .of fun w => cmp1 _ _ w (by decide) (by decide) 1 (by decide +kernel)
theorem cm_ff : Ret 13 #[.string ⟨#[]⟩, .string ⟨#[255]⟩] (.int .i64 (-1)) := .of fun w => cmp1 _ _ w (by decide) (by decide) (-1) (by decide +kernel)
end Go.Proofs.BT
