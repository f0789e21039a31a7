/- The document's alias tables: plain: what the last loop has in memory. -/
import Derived.Test.YticickjnlkbkoaaAliU
import Derived.Test.YticickjnlkbkoaaBelA
namespace Go.Proofs.AL
open Go.RowKit
open Go.Proofs
open Go.Proofs.NP
open Go.Proofs.SL
open Go.Proofs.RA
open Go.Proofs.BL
open Go
set_option linter.unusedVariables false
set_option linter.unusedSimpArgs false
theorem rowL_ne {n : Nat} (f : Nat → Int) (h : 1 ≤ n) : rowL n f ≠ [] := fun e => by
  have := rowL_len n f
  rw [e] at this
  simp at this; omega
/-- the five rows in the last loop -/
def F3 (n : Nat) (t : St) (gc c0 go c1 gh c2 : Nat) (a3 : Option Addr) (c3 : Nat) (a4 : Option Addr) (c4 : Nat) : Fin 5 → Rw :=
  five ⟨some ⟨gc, 0, none⟩, c0, rowL n t.cu⟩ ⟨some ⟨go, 0, none⟩, c1, rowL n t.ot⟩ ⟨some ⟨gh, 0, none⟩, c2, rowL n t.ht⟩ ⟨a3, c3, nums t.lo⟩ ⟨a4, c4, nums t.hi⟩
variable {B n gc c0 go c1 gh c2 c3 c4 : Nat} {a3 a4 : Option Addr} {W W' : World} {t : St}
theorem F3.apart (h : Fv B W (F3 n t gc c0 go c1 gh c2 a3 c3 a4 c4)) : (gc ≠ go ∧ gc ≠ gh ∧ go ≠ gh) ∧ (B ≤ gc ∧ B ≤ go ∧ B ≤ gh) ∧ (gc < W.heap.size ∧ go < W.heap.size ∧ gh < W.heap.size) := by
  have o0 : Oi 2 B W (some ⟨gc, 0, none⟩) c0 (rowL n t.cu) := h.own 0
  have o1 : Oi 3 B W (some ⟨go, 0, none⟩) c1 (rowL n t.ot) := h.own 1
  have o2 : Oi 2 B W (some ⟨gh, 0, none⟩) c2 (rowL n t.ht) := h.own 2
  refine ⟨⟨fun e => ?_, fun e => ?_, fun e => ?_⟩, ⟨o0.ge.1, o1.ge.1, o2.ge.1⟩, o0.ge.2, o1.ge.2, o2.ge.2⟩
  · exact h.ne 0 1 (by decide) gc rfl (by rw [e]; rfl)
  · exact h.ne 0 2 (by decide) gc rfl (by rw [e]; rfl)
  · exact h.ne 1 2 (by decide) go rfl (by rw [e]; rfl)
theorem F3.cut (h : Fv B W (F3 n t gc c0 go c1 gh c2 a3 c3 a4 c4)) (l : Nat) (hl : l < n) : W.cell? ⟨gc, l, none⟩ = some (.int .i64 (t.cu l)) ∧ W.frozen? ⟨gc, l, none⟩ = false := by
  have o0 : Oi 2 B W (some ⟨gc, 0, none⟩) c0 (rowL n t.cu) := h.own 0
  refine ⟨?_, o0.free l⟩
  rw [o0.cell l (by rw [rowL_len]; exact hl), rowL_get]
theorem F3.oth (h : Fv B W (F3 n t gc c0 go c1 gh c2 a3 c3 a4 c4)) (l : Nat) (hl : l < n) : W.cell? ⟨go, l, none⟩ = some (.int .i64 (t.ot l)) ∧ W.frozen? ⟨go, l, none⟩ = false := by
  have o0 : Oi 3 B W (some ⟨go, 0, none⟩) c1 (rowL n t.ot) := h.own 1
  refine ⟨?_, o0.free l⟩
  rw [o0.cell l (by rw [rowL_len]; exact hl), rowL_get]
theorem F3.hgt (h : Fv B W (F3 n t gc c0 go c1 gh c2 a3 c3 a4 c4)) (l : Nat) (hl : l < n) : W.cell? ⟨gh, l, none⟩ = some (.int .i64 (t.ht l)) ∧ W.frozen? ⟨gh, l, none⟩ = false := by
  have o0 : Oi 2 B W (some ⟨gh, 0, none⟩) c2 (rowL n t.ht) := h.own 2
  refine ⟨?_, o0.free l⟩
  rw [o0.cell l (by rw [rowL_len]; exact hl), rowL_get]
theorem F3.low (h : Fv B W (F3 n t gc c0 go c1 gh c2 a3 c3 a4 c4)) (p : Nat) (hp : p < t.lo.length) : ∃ g, a3 = some ⟨g, 0, none⟩ ∧ t.lo.length ≤ c3 ∧ W.cell? ⟨g, p, none⟩ = some (.int .i64 ((t.lo[p] : Nat) : Int)) := by
  have o : Oi 3 B W a3 c3 (nums t.lo) := h.own 3
  have hl := nums_len t.lo
  obtain ⟨g, rfl, -, -⟩ := o.some_of (fun e => by rw [e] at hl; simp at hl; omega)
  refine ⟨g, rfl, ?_, ?_⟩
  · have := o.le_cap; omega
  · rw [o.cell p (by omega), nums_get]
theorem F3.high (h : Fv B W (F3 n t gc c0 go c1 gh c2 a3 c3 a4 c4)) (p : Nat) (hp : p < t.hi.length) : ∃ g, a4 = some ⟨g, 0, none⟩ ∧ t.hi.length ≤ c4 ∧ W.cell? ⟨g, p, none⟩ = some (.int .i64 ((t.hi[p] : Nat) : Int)) := by
  have o : Oi 3 B W a4 c4 (nums t.hi) := h.own 4
  have hl := nums_len t.hi
  obtain ⟨g, rfl, -, -⟩ := o.some_of (fun e => by rw [e] at hl; simp at hl; omega)
  refine ⟨g, rfl, ?_, ?_⟩
  · have := o.le_cap; omega
  · rw [o.cell p (by omega), nums_get]
theorem F3.fillA (h : Fv B W (F3 n t gc c0 go c1 gh c2 a3 c3 a4 c4)) (l : Nat) (u v : Int) :
    Fv B ((W.setCell ⟨gc, l, none⟩ (.int .i64 u)).setCell ⟨go, l, none⟩ (.int .i64 v)) (F3 n { t with cu := put t.cu l u, ot := put t.ot l v } gc c0 go c1 gh c2 a3 c3 a4 c4) := by
  have h1 := h.store 0 (g := gc) rfl l u
  rw [F3, up5_0] at h1
  have h2 := h1.store 1 (g := go) rfl l v
  rw [up5_1] at h2
  simp only [five] at h2
  rw [rowL_set, rowL_set] at h2
  exact h2
theorem F3.fillB (h : Fv B W (F3 n t gc c0 go c1 gh c2 a3 c3 a4 c4)) (l : Nat) (u : Int) :
    Fv B (W.setCell ⟨gh, l, none⟩ (.int .i64 u)) (F3 n { t with ht := put t.ht l u } gc c0 go c1 gh c2 a3 c3 a4 c4) := by
  have h1 := h.store 2 (g := gh) rfl l u
  rw [F3, up5_2] at h1
  simp only [five] at h1
  rw [rowL_set] at h1
  exact h1
theorem F3.cut_lo (h : Fv B W (F3 n t gc c0 go c1 gh c2 a3 c3 a4 c4)) {lo' x : List Nat} (hl : t.lo = lo' ++ x) : Fv B W (F3 n { t with lo := lo' } gc c0 go c1 gh c2 a3 c3 a4 c4) := by
  have h1 := h.take 3 lo'.length (by show lo'.length ≤ (nums t.lo).length; rw [nums_len, hl, List.length_append]; omega)
  rw [F3, up5_3] at h1
  simp only [five] at h1
  rw [hl, nums_take] at h1
  exact h1
theorem F3.cut_hi (h : Fv B W (F3 n t gc c0 go c1 gh c2 a3 c3 a4 c4)) {hi' x : List Nat} (hl : t.hi = hi' ++ x) : Fv B W (F3 n { t with hi := hi' } gc c0 go c1 gh c2 a3 c3 a4 c4) := by
  have h1 := h.take 4 hi'.length (by show hi'.length ≤ (nums t.hi).length; rw [nums_len, hl, List.length_append]; omega)
  rw [F3, up5_4] at h1
  simp only [five] at h1
  rw [hl, nums_take] at h1
  exact h1
theorem F3.app_lo (h : Fv B W (F3 n t gc c0 go c1 gh c2 a3 c3 a4 c4)) {x g c : Nat} (hO : Oi 3 B W' (some ⟨g, 0, none⟩) c (nums t.lo ++ [(x : Int)])) (hg : W.grownBy W' (blkO a3)) (hn : blkO a3 = some g ∨ g = W.heap.size) :
    Fv B W' (F3 n { t with lo := t.lo ++ [x] } gc c0 go c1 gh c2 (some ⟨g, 0, none⟩) c a4 c4) := by
  have h1 := h.app 3 hO hg hn
  rw [F3, up5_3, nums_app] at h1
  exact h1
/-- a cell beside one that is written -/
theorem cell_set {g k i j : Nat} {v u : Value} (h : W.cell? ⟨g, i, none⟩ = some v) (hne : g ≠ k) : (W.setCell ⟨k, j, none⟩ u).cell? ⟨g, i, none⟩ = some v := (grown_set W k j u).cell h (by simp; exact hne)
end Go.Proofs.AL
