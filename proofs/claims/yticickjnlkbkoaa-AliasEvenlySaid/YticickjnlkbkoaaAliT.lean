/- Alias tables: a copy of a cursor; what two draws give of any text that begins so. -/
import Derived.Test.YticickjnlkbkoaaAliJ
namespace Go.Proofs.AL
open Go.RowKit
open Go.Proofs
open Go.Proofs.NP
open Go.Proofs.SL
open Go.Proofs.RA
open Go.Proofs.BL
open Go.Proofs.BT
open Go
set_option linter.unusedVariables false
set_option linter.unusedSimpArgs false
set_option maxRecDepth 20000
theorem Cu.newA (w : World) (T : TypeId) (s : ByteArray) (a : Nat) (o : Bool) : Cu T (w.alloc (.cells #[.string s, .int .i64 (a : Int), .bool o] T)) w.heap.size s a o := World.alloc_heap_new w _
theorem copy1 (b : Nat) (s : ByteArray) (w : World) (h : Cp w b s 0 false) :
    Calls Try.prog 33 #[.pointer (some ⟨b, 0, none⟩)] w fun e w' => e = .returned (.pointer (some ⟨w.heap.size, 0, none⟩)) ∧ Cp w' w.heap.size s 0 false ∧ Kp w w' := by
  have c0 := h.c0
  have c1 : w.cell? ⟨b, 1, none⟩ = some (.int .i64 0) := h.c1
  have c2 := h.c2
  have HC := Lib.hid (Cu.new w 93 s)
  have HK := Lib.hid ((Kp.refl w).al (.cells #[.string s, .int .i64 0, .bool false] 93))
  clear h
  go_enter Try.func33, Try.ntmps33
  go_wp2_with fail
  go_ret
  exact ⟨rfl, HC.out, HK.out⟩
theorem draw_ov {s : ByteArray} {m a : Nat} (hm : 0 < m) {o : Bool} (ho : o = true) : draw s m a o = ⟨0, false, a, o⟩ := by rw [draw, if_pos (.inr ho)]
theorem draw_is {s : ByteArray} {m a : Nat} (hm : 0 < m) : (draw s m a false).is = !(draw s m a false).ov := by
  rw [draw, if_neg (by simp; omega)]
  exact drw_is.1
theorem draw_le {s : ByteArray} {m a : Nat} {o : Bool} (ha : a ≤ s.size) : a ≤ (draw s m a o).at' ∧ (draw s m a o).at' ≤ s.size := by
  rw [draw]; split
  · exact ⟨Nat.le_refl _, ha⟩
  · exact drw_le ha
theorem draw_lt {s : ByteArray} {m a : Nat} {o : Bool} (h : (draw s m a o).is = true) : (draw s m a o).x < m := by
  rw [draw] at h ⊢
  split at h
  · cases h
  · rename_i h0
    rw [if_neg h0]
    exact drw_is.2.1 h
theorem draw_no {s : ByteArray} {m a : Nat} {o : Bool} (h : (draw s m a o).is = false) : (draw s m a o).x = 0 := by
  rw [draw] at h ⊢
  split at h
  · rename_i h0; rw [if_pos h0]
  · rename_i h0
    rw [if_neg h0] at *
    exact drw_is.2.2 h
theorem draw_front {s t : ByteArray} {m a : Nat} (hm : 0 < m) (h : (draw s m a false).is = true) (hle : (draw s m a false).at' ≤ t.size) (hb : ∀ i, i < (draw s m a false).at' → bitA s i = bitA t i) (ha : a ≤ t.size) : draw t m a false = draw s m a false := by
  have h0 : ¬ (m = 0 ∨ false = true) := by simp; omega
  unfold draw at h hle hb ⊢
  rw [if_neg h0] at h hle hb ⊢
  rw [if_neg h0]
  exact drw_front hm h hle hb (by omega) ha
theorem tdr_front {n S : Nat} {cu ot : Nat → Int} {s t : ByteArray} {d e : Dr} (hn : 0 < n) (hS : 0 < S) (hd : d = draw s n 0 false) (he : e = draw s S d.at' d.ov) (h1 : d.is = true) (h2 : e.is = true) (hle : e.at' ≤ t.size) (hb : ∀ i, i < e.at' → bitA s i = bitA t i) :
    tdr n S cu ot t 0 false = (if (e.x : Int) < cu d.x then (d.x : Int) else ot d.x, true, e.at', e.ov) := by
  have hov : d.ov = false := by
    have := draw_is (s := s) (a := 0) hn
    rw [← hd, h1] at this
    simpa using this
  have hda : d.at' ≤ s.size := by rw [hd]; exact (draw_le (Nat.zero_le _)).2
  have hea : d.at' ≤ e.at' := by rw [he]; exact (draw_le hda).1
  have e1 : draw t n 0 false = d := by rw [hd]; exact draw_front hn (by rw [← hd]; exact h1) (by rw [← hd]; omega) (fun i hi => hb i (by rw [← hd] at hi; omega)) (Nat.zero_le _)
  rw [hov] at he
  have e2 : draw t S d.at' false = e := by rw [he]; exact draw_front hS (by rw [← he]; exact h2) (by rw [← he]; omega) (fun i hi => hb i (by rw [← he] at hi; omega)) (by omega)
  unfold tdr
  simp only [e1, hov, e2, h1, h2, if_neg (show ¬ (true = false) by decide)]
theorem tdr_le {n S : Nat} {cu ot : Nat → Int} {s : ByteArray} {a : Nat} {o : Bool} (ha : a ≤ s.size) : (tdr n S cu ot s a o).2.2.1 ≤ s.size := by
  have h1 : (draw s n a o).at' ≤ s.size := (draw_le ha).2
  have h2 : (draw s S (draw s n a o).at' (draw s n a o).ov).at' ≤ s.size := (draw_le h1).2
  unfold tdr
  simp only
  split
  · exact h1
  · split
    · exact h2
    · exact h2
theorem isB_cat {s t : ByteArray} {a : Nat} (h : isB s = true) (k : isB t = true) (hl : a + t.size ≤ 1024) : isB (s.extract 0 a ++ t) = true :=
  isB_mk (bits_app (bits_ext (isB_bits h) _ _) (isB_bits k)) (by rw [ByteArray.size_append, ByteArray.size_extract]; omega)
theorem bit_front {s t : ByteArray} {a i : Nat} (ha : a ≤ s.size) (hi : i < a) : bitA s i = bitA (s.extract 0 a ++ t) i := by
  rw [bitA_app _ _ _ (by rw [ByteArray.size_extract]; omega), bitA_take _ _ _ ha hi]
end Go.Proofs.AL
