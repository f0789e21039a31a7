/- Cursors: the block of one; New, At, Over, Left of the program and of the document's answer. -/
import Derived.Test.YticickjnlkbkoaaGreatBelP
import Derived.Test.YticickjnlkbkoaaGreatMN
import Derived.RangeFuncBox
import Derived.WalkKit
import Derived.Deep.QuietTactic
import Derived.BigQuiet
namespace Go.Proofs.BL
open Go.RowKit
open Go.Proofs
open Go.Proofs.BT
open Go.Proofs.SL
open Go
set_option linter.unusedVariables false
set_option maxRecDepth 20000
set_option linter.unusedSimpArgs false
/-- block b is a cursor: its text, how many bits are read, whether it is over -/
def Cu (T : TypeId) (W : World) (b : Nat) (s : ByteArray) (a : Nat) (o : Bool) : Prop := W.heap[b]? = some (.cells #[.string s, .int .i64 (a : Int), .bool o] T (0, 0))
variable {T : TypeId} {W W' : World} {b a : Nat} {s : ByteArray} {o : Bool}
theorem Cu.lt (h : Cu T W b s a o) : b < W.heap.size := (Array.getElem?_eq_some_iff.1 h).1
theorem Cu.c0 (h : Cu T W b s a o) : W.cell? ⟨b, 0, none⟩ = some (.string s) := by simp [World.cell?, show W.heap[b]? = _ from h]
theorem Cu.c1 (h : Cu T W b s a o) : W.cell? ⟨b, 1, none⟩ = some (.int .i64 (a : Int)) := by simp [World.cell?, show W.heap[b]? = _ from h]
theorem Cu.c2 (h : Cu T W b s a o) : W.cell? ⟨b, 2, none⟩ = some (.bool o) := by simp [World.cell?, show W.heap[b]? = _ from h]
theorem Cu.fr (h : Cu T W b s a o) (i : Nat) : W.frozen? ⟨b, i, none⟩ = false := by simp [World.frozen?, show W.heap[b]? = _ from h]
theorem Cu.kept {row : Option Nat} (h : Cu T W b s a o) (hg : W.grownBy W' row) (hne : some b ≠ row) : Cu T W' b s a o := (hg.block b h.lt hne).trans h
theorem Cu.below {B : Nat} (h : Cu T W b s a o) (hb : Below B W W') (hB : b < B) : Cu T W' b s a o := (hb.block b hB).trans h
theorem Cu.nx (h : Cu T W b s a o) (hb : Kp W W') : Cu T W' b s a o := h.below hb h.lt
theorem Cu.new (w : World) (T : TypeId) (s : ByteArray) : Cu T (w.alloc (.cells #[.string s, .int .i64 0, .bool false] T)) w.heap.size s 0 false := World.alloc_heap_new w _
theorem grown_set (W : World) (b i : Nat) (v : Value) : W.grownBy (W.setCell ⟨b, i, none⟩ v) (some b) :=
  ⟨rfl, rfl, rfl, (KeepsWalks.setCell W _ v).size, fun k _ hk => Below.heap_setCell _ _ _ k (fun e => hk (by rw [e]))⟩
theorem Cu.set1 (h : Cu T W b s a o) (a' : Nat) (z : Int) (hz : z = a') : Cu T (W.setCell ⟨b, 1, none⟩ (.int .i64 z)) b s a' o := by
  subst hz
  obtain ⟨hlt, hk⟩ := Array.getElem?_eq_some_iff.1 h
  show (W.heap.modify b _)[b]? = _
  rw [Array.getElem?_eq_getElem (by rw [Array.size_modify]; exact hlt), Array.getElem_modify_self, hk]
  rfl
theorem Cu.set2 (h : Cu T W b s a o) (o' : Bool) : Cu T (W.setCell ⟨b, 2, none⟩ (.bool o')) b s a o' := by
  obtain ⟨hlt, hk⟩ := Array.getElem?_eq_some_iff.1 h
  show (W.heap.modify b _)[b]? = _
  rw [Array.getElem?_eq_getElem (by rw [Array.size_modify]; exact hlt), Array.getElem_modify_self, hk]
  rfl
theorem Cu.dr (h : Cu T W b s a o) (n : Nat) : Cu T (W.drewN n) b s a o := h.nx (below_drewN (Below.refl _ W) n)
/-- a cursor of the program's -/
abbrev Cp := @Cu 65
/-- a string of bits? any text -/
theorem is1w (s : ByteArray) (w : World) (hs : s.size ≤ 9223372036854775807) (z : Bool) (hz : z = isB s) :
    Calls Tryz.prog 24 #[.string s] w fun e w' => e = .returned (.bool z) ∧ w = w' := by
  by_cases hl : s.size ≤ 1024
  · exact is1 s w (by omega) z hz
  · obtain rfl : z = false := by rw [hz, isB]; simp [hl]
    clear hz
    go_enter Tryz.func24, Tryz.ntmps24
    go_wp2_with fail
    go_ret
    exact ⟨rfl, rfl⟩
theorem new1_ok (s : ByteArray) (w : World) (hs : s.size ≤ 9223372036854775807) (hb : isB s = true) :
    Calls Tryz.prog 8 #[.string s] w fun e w' => e = .returned (.tuple #[.pointer (some ⟨w.heap.size, 0, none⟩), .int .i64 0]) ∧ Cp w' w.heap.size s 0 false ∧ Kp w w' := by
  have H1 := Lib.hid (is1w s w hs true hb.symm)
  have HC := Lib.hid (Cu.new w 65 s)
  have HK := Lib.hid ((Kp.refl w).al (.cells #[.string s, .int .i64 0, .bool false] 65))
  clear hb
  go_enter Tryz.func8, Tryz.ntmps8
  go_wp2_with fail
  refine H1.out.mono ?_; rintro e w' ⟨rfl, rfl⟩
  go_wp2_with fail
  go_ret2
  exact ⟨rfl, HC.out, HK.out⟩
theorem new1_no (s : ByteArray) (w : World) (hs : s.size ≤ 9223372036854775807) (hb : isB s = false) :
    Calls Tryz.prog 8 #[.string s] w fun e w' => e = .returned (.tuple #[.pointer none, .int .i64 3]) ∧ w = w' := by
  have H1 := Lib.hid (is1w s w hs false hb.symm)
  clear hb
  go_enter Tryz.func8, Tryz.ntmps8
  go_wp2_with fail
  refine H1.out.mono ?_; rintro e w' ⟨rfl, rfl⟩
  go_wp2_with fail
  go_ret2
  exact ⟨rfl, rfl⟩
theorem at1 (b a : Nat) (s : ByteArray) (o : Bool) (w : World) (h : Cp w b s a o) :
    Calls Tryz.prog 14 #[.pointer (some ⟨b, 0, none⟩)] w fun e w' => e = .returned (.int .i64 (a : Int)) ∧ w = w' := by
  have c1 := h.c1
  clear h
  go_enter Tryz.func14, Tryz.ntmps14
  go_wp2_with fail
  go_ret
  exact ⟨rfl, rfl⟩
theorem at1_nil (w : World) :
    Calls Tryz.prog 14 #[.pointer none] w fun e w' => e = .returned (.int .i64 0) ∧ w = w' := by
  go_enter Tryz.func14, Tryz.ntmps14
  go_wp2_with fail
  go_ret
  exact ⟨rfl, rfl⟩
theorem over1 (b a : Nat) (s : ByteArray) (o : Bool) (w : World) (h : Cp w b s a o) :
    Calls Tryz.prog 15 #[.pointer (some ⟨b, 0, none⟩)] w fun e w' => e = .returned (.bool o) ∧ w = w' := by
  have c2 := h.c2
  clear h
  go_enter Tryz.func15, Tryz.ntmps15
  go_wp2_with fail
  go_ret
  exact ⟨rfl, rfl⟩
theorem rest1 (b a : Nat) (s : ByteArray) (o : Bool) (w : World) (h : Cp w b s a o) (ha : a ≤ s.size) (hs : s.size ≤ 4294967296) :
    Calls Tryz.prog 80 #[.pointer (some ⟨b, 0, none⟩)] w fun e w' => e = .returned (.string (s.extract a s.size)) ∧ ∃ n, w.drewN n = w' := by
  have c1 := h.c1
  have c0 := h.c0
  clear h
  go_enter Tryz.func80, Tryz.ntmps80
  go_wp2_with fail
  go_quiet (fail)
  go_wp2_with fail
  go_ret
  exact ⟨rfl, _, rfl⟩
theorem left1 (b a : Nat) (s : ByteArray) (o : Bool) (w : World) (h : Cp w b s a o) (ha : a ≤ s.size) (hs : s.size ≤ 4294967296) (z : Int) (hz : z = (s.size : Int) - a) :
    Calls Tryz.prog 54 #[.pointer (some ⟨b, 0, none⟩)] w fun e w' => e = .returned (.int .i64 z) ∧ ∃ n, w.drewN n = w' := by
  have H1 := Lib.hid (rest1 b a s o w h ha hs)
  have HZ := Lib.hid hz
  clear h hz
  go_enter Tryz.func54, Tryz.ntmps54
  go_wp2_with fail
  refine H1.out.mono ?_; rintro e w' ⟨rfl, n, rfl⟩
  go_wp2_with fail
  go_ret
  exact ⟨ret_int (by rw [HZ.out]; omega), n, rfl⟩
end Go.Proofs.BL
