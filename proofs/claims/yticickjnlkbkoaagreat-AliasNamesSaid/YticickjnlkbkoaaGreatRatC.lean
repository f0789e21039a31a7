/- Whole numbers and fractions that are not below 0: whole.Make, sign, rat.Make, the document's Make. -/
import Derived.Test.YticickjnlkbkoaaGreatRatA
import Derived.Laws.ResultCell
import Derived.RangeFuncBox
namespace Go.Proofs.RA
open Go.RowKit
open Go.Proofs
open Go.Proofs.NP
open Go.Proofs.SL
open Go.Proofs.NR (Fits GivesE)
set_option linter.unusedVariables false
set_option linter.unusedSimpArgs false
set_option maxRecDepth 20000
variable {w : World} {a b : Option Addr} {ca cb l k : Nat} {xs ys zs : List Nat}
/-- a block of cells as it was laid -/
def Bk (W : World) (b : Nat) (cs : Array Value) (T : TypeId) : Prop := W.heap[b]? = some (.cells cs T (0, 0))
theorem Bk.lt {W : World} {b : Nat} {cs : Array Value} {T : TypeId} (h : Bk W b cs T) : b < W.heap.size := (Array.getElem?_eq_some_iff.1 h).1
theorem Bk.c {W : World} {b : Nat} {cs : Array Value} {T : TypeId} (h : Bk W b cs T) (i : Nat) : W.cell? ⟨b, i, none⟩ = cs[i]? := by simp [World.cell?, show W.heap[b]? = _ from h]
theorem Bk.f {W : World} {b : Nat} {cs : Array Value} {T : TypeId} (h : Bk W b cs T) (i : Nat) : W.frozen? ⟨b, i, none⟩ = false := by simp [World.frozen?, show W.heap[b]? = _ from h]
theorem Bk.nx {W W' : World} {b : Nat} {cs : Array Value} {T : TypeId} (h : Bk W b cs T) (hk : Kp W W') : Bk W' b cs T := (hk.below.block b h.lt).trans h
theorem Bk.new (W : World) (cs : Array Value) (T : TypeId) : Bk (W.alloc (.cells cs T)) W.heap.size cs T := World.alloc_heap_new W _
theorem Bk.set {W : World} {b : Nat} {cs : Array Value} {T : TypeId} (h : Bk W b cs T) (i : Nat) (v : Value) : Bk (W.setCell ⟨b, i, none⟩ v) b (cs.setIfInBounds i v) T := by
  obtain ⟨hlt, hk⟩ := Array.getElem?_eq_some_iff.1 h
  show (W.heap.modify b _)[b]? = _
  rw [Array.getElem?_eq_getElem (by rw [Array.size_modify]; exact hlt), Array.getElem_modify_self, hk]
  rfl
/-- a slice that lies in blocks from B on -/
def Fr (B : Nat) (w : World) (a : Option Addr) (cap : Nat) (xs : List Nat) : Prop := Rd w a cap xs ∧ ∀ x, a = some x → B ≤ x.block
theorem Fr.rd {B : Nat} {w : World} {a : Option Addr} {cap : Nat} {xs : List Nat} (h : Fr B w a cap xs) : Rd w a cap xs := h.1
theorem Fr.of {B C : Nat} {e : TypeId} {w : World} {a : Option Addr} {cap : Nat} {xs : List Nat} (h : SL.Own e C w a cap xs) (hB : B ≤ C) : Fr B w a cap xs := by
  refine ⟨h.rd, fun x hx => ?_⟩
  rcases h.cases with ⟨rfl, _⟩ | ⟨g, h1, h2, _⟩
  · cases hx
  · rw [h1] at hx; cases hx; show B ≤ g; omega
theorem Fr.nx {B : Nat} {w w' : World} {a : Option Addr} {cap : Nat} {xs : List Nat} (h : Fr B w a cap xs) (hk : Kp w w') : Fr B w' a cap xs := ⟨h.1.nx hk, h.2⟩
theorem Fr.mono {B C : Nat} {w : World} {a : Option Addr} {cap : Nat} {xs : List Nat} (h : Fr B w a cap xs) (hC : C ≤ B) : Fr C w a cap xs := ⟨h.1, fun x hx => Nat.le_trans hC (h.2 x hx)⟩
theorem Fr.set {B : Nat} {w : World} {a : Option Addr} {cap : Nat} {xs : List Nat} (h : Fr B w a cap xs) {g : Nat} (hg : g < B) (i : Nat) (v : Value) : Fr B (w.setCell ⟨g, i, none⟩ v) a cap xs := by
  refine ⟨⟨h.1.dig, h.1.le, h.1.max, ?_⟩, h.2⟩
  rcases h.1.at' with h' | ⟨b, off, rfl, hlt, hc⟩
  · exact .inl h'
  · have hb := h.2 _ rfl
    refine .inr ⟨b, off, rfl, by rw [World.size_setCell]; exact hlt, fun i' hi => ?_⟩
    rw [← hc i' hi]
    exact World.cell?_of_block (Below.heap_setCell _ _ _ b (by show b ≠ g; simp at hb; omega))
theorem wmake (hx : Rd w a ca xs) (lx : xs.length = l) (h : l ≤ 100000) (hz : zs = L (V xs)) :
    Calls Tryz.prog 33 #[.bool false, .slice a l ca] w fun e w' => ∃ p c, e = .returned (.agg #[.bool false, .slice p zs.length c]) ∧ Fr w.heap.size w' p c zs ∧ Kp w w' := by
  have HT := Lib.hid (fun (w1 : World) (hx : Rd w1 a ca xs) => NR.trim hx lx h hz)
  have HX := Lib.hid hx
  clear hx lx hz
  go_enter Tryz.func33, Tryz.ntmps33
  go_wp2_with fail
  have RB := Bk.new w #[.bool false, .slice none 0 0] 47
  have KA := (Kp.refl w).al (.cells #[.bool false, .slice none 0 0] 47)
  refine (HT.out _ (HX.out.nx KA)).mono ?_; rintro e w1 ⟨p1, d1, rfl, ho, hb⟩
  rw [World.size_alloc] at ho
  have HO := Lib.hid (Fr.of ho (Nat.le_refl _))
  replace RB := RB.nx hb
  have HK := Lib.hid (Kp.nx KA hb)
  have c0 := RB.c 0
  have c1 := RB.c 1
  have f0 := RB.f 0
  have f1 := RB.f 1
  have HRB := Lib.hid (show Bk _ _ #[.bool false, .slice p1 zs.length d1] _ from (RB.set 0 (.bool false)).set 1 (.slice p1 zs.length d1))
  clear HT KA RB ho hb HX
  go_wp2_with fail
  have q0 := HRB.out.c 0
  have q1 := HRB.out.c 1
  refine bodyPost_ret (v := .agg #[.bool false, .slice p1 zs.length d1]) (by simp [results, Tryz.results33, go_sem, q0, q1]) rfl ?_
  exact ⟨_, _, rfl, ((HO.out.set (Nat.lt_succ_self _) 0 _).set (Nat.lt_succ_self _) 1 _).mono (Nat.le_succ _), (HK.out.setCell (p := ⟨w.heap.size, 0, none⟩) (Nat.le_refl _) _).setCell (p := ⟨w.heap.size, 1, none⟩) (Nat.le_refl _) _⟩
end Go.Proofs.RA
