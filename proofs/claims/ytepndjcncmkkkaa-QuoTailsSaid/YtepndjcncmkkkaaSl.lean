/- Slices of 64-bit words as lists of naturals: what a slice reads as, what a call owns, and how both stand over a growing world. No program in sight. -/
import Derived.WalkKit
import Derived.WalkSmall
import Derived.Test.YtepndjcncmkkkaaNatPure
namespace Go.Proofs.SL
open Go.RowKit
open Go.Proofs.NP
set_option linter.unusedVariables false

/-- the natural of limbs -/
def V (xs : List Nat) : Nat := val 18446744073709551616 xs
/-- a natural's limbs -/
def L (n : Nat) : List Nat := digs 18446744073709551616 n
/-- 64-bit words, all of them -/
def Ws (xs : List Nat) : Prop := Dig 18446744073709551616 xs

theorem V_L (n : Nat) : V (L n) = n := val_digs _ (by decide) n
theorem L_inj {m n : Nat} (h : L m = L n) : m = n := digs_inj _ (by decide) h
theorem Ws_L (n : Nat) : Ws (L n) := dig_digs _ (by decide) n
theorem L_V {xs : List Nat} (h : Ws xs) (hl : ∀ h : xs ≠ [], xs.getLast h ≠ 0) : L (V xs) = xs := digs_val _ (by decide) h hl
theorem L_zero : L 0 = [] := rfl
theorem L_len (n k : Nat) (h : n < 18446744073709551616 ^ k) : (L n).length ≤ k := digs_length_le _ (by decide) k n h
theorem V_lt {xs : List Nat} (h : Ws xs) : V xs < 18446744073709551616 ^ xs.length := val_lt (by decide) h
theorem L_V_len {xs : List Nat} (h : Ws xs) : (L (V xs)).length ≤ xs.length := L_len _ _ (V_lt h)
theorem L_nil (n : Nat) : L n = [] ↔ n = 0 := by
  constructor
  · intro h; have := V_L n; rw [h] at this; exact this.symm
  · rintro rfl; rfl
theorem V_dg {xs : List Nat} (h : Ws xs) (i : Nat) : xs[i]?.getD 0 = dg 18446744073709551616 (V xs) i := getD_dg _ (by decide) h i

/-- a word as the cell that holds it -/
def enc (x : Nat) : Value := .int .u64 (x : Int)

/-- a slice of words, below block H, reads xs -/
structure Sl (H : Nat) (w : World) (a : Option Addr) (cap : Nat) (xs : List Nat) : Prop where
  dig : Ws xs
  le : xs.length ≤ cap
  max : cap ≤ maxLen
  at' : xs = [] ∨ ∃ b off, a = some ⟨b, off, none⟩ ∧ b < H ∧ ∀ i (h : i < xs.length), w.cell? ⟨b, off + i, none⟩ = some (.int .u64 (xs[i] : Int))

theorem Sl.below {H B : Nat} {w w' : World} {a : Option Addr} {cap : Nat} {xs : List Nat} (h : Sl H w a cap xs) (hb : Below B w w') (hH : H ≤ B) : Sl H w' a cap xs := by
  refine ⟨h.dig, h.le, h.max, ?_⟩
  rcases h.at' with h' | ⟨b, off, rfl, hlt, hc⟩
  · exact .inl h'
  · exact .inr ⟨b, off, rfl, hlt, fun i hi => by rw [hb.cell (p := ⟨b, off + i, none⟩) (by show b < B; omega)]; exact hc i hi⟩

theorem Sl.mono {H H' : Nat} {w : World} {a : Option Addr} {cap : Nat} {xs : List Nat} (h : Sl H w a cap xs) (hH : H ≤ H') : Sl H' w a cap xs := by
  refine ⟨h.dig, h.le, h.max, ?_⟩
  rcases h.at' with h' | ⟨b, off, rfl, hlt, hc⟩
  · exact .inl h'
  · exact .inr ⟨b, off, rfl, by omega, hc⟩

/-- a slice of the call's own: it begins a block from B on -/
structure Own (e : TypeId) (B : Nat) (w : World) (a : Option Addr) (cap : Nat) (xs : List Nat) : Prop where
  dig : Ws xs
  row : w.ownsRow B e 1 (.slice a xs.length cap) xs.length (xs.map enc)

theorem Own.cases {e : TypeId} {B : Nat} {w : World} {a : Option Addr} {cap : Nat} {xs : List Nat} (h : Own e B w a cap xs) :
    (a = none ∧ cap = 0 ∧ xs = []) ∨ ∃ g, a = some ⟨g, 0, none⟩ ∧ B ≤ g ∧ g < w.heap.size ∧ xs.length ≤ cap ∧ cap ≤ maxLen := by
  rcases h.row.2 with ⟨hv, hn⟩ | ⟨g, cap', cur, hv, hb, hg, hnc, hcm, hcs, ht⟩
  · simp only [Value.slice.injEq] at hv
    exact .inl ⟨hv.1, hv.2.2, List.eq_nil_of_length_eq_zero hn⟩
  · simp only [Value.slice.injEq] at hv
    obtain ⟨rfl, _, rfl⟩ := hv
    exact .inr ⟨g, rfl, hb, (Array.getElem?_eq_some_iff.1 hg).1, hnc, hcm⟩

theorem Own.sl {e : TypeId} {B : Nat} {w : World} {a : Option Addr} {cap : Nat} {xs : List Nat} (h : Own e B w a cap xs) : Sl w.heap.size w a cap xs := by
  rcases h.cases with ⟨rfl, rfl, rfl⟩ | ⟨g, rfl, hb, hg, hnc, hcm⟩
  · exact ⟨Dig.nil _, by simp, by simp, .inl rfl⟩
  · refine ⟨h.dig, hnc, hcm, .inr ⟨g, 0, rfl, hg, fun i hi => ?_⟩⟩
    rw [Nat.zero_add, h.row.cellAt i (by omega)]
    simp [hi, enc]

theorem Own.mono {e : TypeId} {B B' : Nat} {w : World} {a : Option Addr} {cap : Nat} {xs : List Nat} (h : Own e B w a cap xs) (hB : B' ≤ B) : Own e B' w a cap xs := by
  refine ⟨h.dig, h.row.1, ?_⟩
  rcases h.row.2 with h' | ⟨g, cap', cur, hv, hb, r⟩
  · exact .inl h'
  · exact .inr ⟨g, cap', cur, hv, by omega, r⟩

/-- what is owned stays so while blocks are laid behind, or others are written -/
theorem Own.kept {e : TypeId} {B : Nat} {w w' : World} {a : Option Addr} {cap : Nat} {xs : List Nat} {row : Option Nat} (h : Own e B w a cap xs) (hg : w.grownBy w' row) (hne : ∀ g, a = some ⟨g, 0, none⟩ → some g ≠ row) : Own e B w' a cap xs := by
  refine ⟨h.dig, h.row.1, ?_⟩
  rcases h.row.2 with h' | ⟨g, cap', cur, hv, hb, hgg, r⟩
  · exact .inl h'
  · have hv' := hv
    simp only [Value.slice.injEq] at hv'
    obtain ⟨rfl, _, rfl⟩ := hv'
    exact .inr ⟨g, cap, cur, hv, hb, (hg.block g (Array.getElem?_eq_some_iff.1 hgg).1 (hne g rfl)).trans hgg, r⟩

theorem Own.below {e : TypeId} {B C : Nat} {w w' : World} {a : Option Addr} {cap : Nat} {xs : List Nat} (h : Own e B w a cap xs) (hb : Below C w w') (hC : w.heap.size ≤ C) : Own e B w' a cap xs := by
  refine ⟨h.dig, h.row.1, ?_⟩
  rcases h.row.2 with h' | ⟨g, cap', cur, hv, hbg, hgg, r⟩
  · exact .inl h'
  · exact .inr ⟨g, cap', cur, hv, hbg, (hb.block g (by have := (Array.getElem?_eq_some_iff.1 hgg).1; omega)).trans hgg, r⟩

/-- below its own block, too -/
theorem Own.below_lt {e : TypeId} {B C : Nat} {w w' : World} {a : Option Addr} {cap : Nat} {xs : List Nat} (h : Own e B w a cap xs) (hb : Below C w w') (hC : ∀ g, a = some ⟨g, 0, none⟩ → g < C) : Own e B w' a cap xs := by
  refine ⟨h.dig, h.row.1, ?_⟩
  rcases h.row.2 with h' | ⟨g, cap', cur, hv, hbg, hgg, r⟩
  · exact .inl h'
  · have hv' := hv
    simp only [Value.slice.injEq] at hv'
    obtain ⟨rfl, _, rfl⟩ := hv'
    exact .inr ⟨g, cap, cur, hv, hbg, (hb.block g (hC g rfl)).trans hgg, r⟩

/-- the first ones of what is owned -/
theorem Own.take {e : TypeId} {B : Nat} {w : World} {a : Option Addr} {cap : Nat} {xs : List Nat} (h : Own e B w a cap xs) (n : Nat) (hn : n ≤ xs.length) : Own e B w a cap (xs.take n) := by
  refine ⟨h.dig.take n, by simp, ?_⟩
  have hl : (xs.take n).length = n := by simp; omega
  rw [hl]
  rcases h.row.2 with ⟨hv, h0⟩ | ⟨g, cap', cur, hv, hbg, hgg, hnc, hcm, hcs, ht⟩
  · simp only [Value.slice.injEq] at hv
    obtain ⟨rfl, _, rfl⟩ := hv
    obtain rfl : n = 0 := by omega
    exact .inl ⟨rfl, rfl⟩
  · simp only [Value.slice.injEq] at hv
    obtain ⟨rfl, _, rfl⟩ := hv
    refine .inr ⟨g, cap, cur, rfl, hbg, hgg, by omega, hcm, hcs, ?_⟩
    rw [List.map_take, ← ht]
    simp [List.take_take, Nat.min_eq_left hn]

/-- a literal's block -/
theorem Own.lit {e : TypeId} {B : Nat} {w : World} (xs : List Nat) (hd : Ws xs) (cs : Array Value) (hcs : cs = (xs.map enc).toArray) (hb : B ≤ w.heap.size) (hm : xs.length ≤ maxLen) :
    Own e B (w.alloc (.cells cs e)) (some ⟨w.heap.size, 0, none⟩) xs.length xs := by
  subst hcs
  refine ⟨hd, ?_⟩
  have := World.ownsRow_lit (e := e) (base := B) (size := 1) w (xs.map enc).toArray xs.length hb hm (by simp)
  simpa using this

/-- the block of what is owned -/
def blk (a : Option Addr) : Option Nat := a.map (·.block)

theorem Own.store {e : TypeId} {B : Nat} {w : World} {g : Nat} {cap : Nat} {xs : List Nat} (h : Own e B w (some ⟨g, 0, none⟩) cap xs) (j x : Nat) (hx : x < 18446744073709551616) :
    Own e B (w.setCell ⟨g, j, none⟩ (.int .u64 (x : Int))) (some ⟨g, 0, none⟩) cap (xs.set j x) ∧ w.grownBy (w.setCell ⟨g, j, none⟩ (.int .u64 (x : Int))) (some g) := by
  have hr := h.row.stored j (enc x)
  refine ⟨⟨fun y hy => ?_, ?_⟩, hr.2⟩
  · rcases List.mem_or_eq_of_mem_set hy with h' | h'
    · exact h.dig y h'
    · subst h'; exact hx
  · have := hr.1
    rw [← List.map_set] at this
    rw [List.length_set]
    exact this

theorem Own.cell {e : TypeId} {B : Nat} {w : World} {g : Nat} {cap : Nat} {xs : List Nat} (h : Own e B w (some ⟨g, 0, none⟩) cap xs) (j : Nat) (hj : j < xs.length) : w.cell? ⟨g, j, none⟩ = some (.int .u64 (xs[j]?.getD 0 : Nat)) := by
  rw [h.row.cellAt j (by omega)]
  simp [hj, enc]

theorem Own.free {e : TypeId} {B : Nat} {w : World} {g : Nat} {cap : Nat} {xs : List Nat} (h : Own e B w (some ⟨g, 0, none⟩) cap xs) (j : Nat) : w.frozen? ⟨g, j, none⟩ = false := h.row.frozenAt j

theorem Own.ge {e : TypeId} {B : Nat} {w : World} {g : Nat} {cap : Nat} {xs : List Nat} (h : Own e B w (some ⟨g, 0, none⟩) cap xs) : B ≤ g ∧ g < w.heap.size := by
  rcases h.cases with ⟨h', _⟩ | ⟨g', h', h1, h2, _⟩
  · simp at h'
  · simp only [Option.some.injEq, Addr.mk.injEq, and_true] at h'
    subst h'; exact ⟨h1, h2⟩

theorem Own.cap {e : TypeId} {B : Nat} {w : World} {a : Option Addr} {cap : Nat} {xs : List Nat} (h : Own e B w a cap xs) : xs.length ≤ cap := by
  rcases h.cases with ⟨_, _, rfl⟩ | ⟨g, _, _, _, h, _⟩
  · simp
  · exact h

theorem Own.some_of {e : TypeId} {B : Nat} {w : World} {a : Option Addr} {cap : Nat} {xs : List Nat} (h : Own e B w a cap xs) (hx : xs ≠ []) : ∃ g, a = some ⟨g, 0, none⟩ ∧ B ≤ g ∧ g < w.heap.size := by
  rcases h.cases with ⟨_, _, rfl⟩ | ⟨g, h1, h2, h3, _⟩
  · exact absurd rfl hx
  · exact ⟨g, h1, h2, h3⟩

/-- a call gives a new slice that reads xs; what was there is as it was -/
def Gives (e : TypeId) (w : World) (xs : List Nat) (en : Ending) (w' : World) : Prop :=
  ∃ a cap, en = .returned (.slice a xs.length cap) ∧ Own e w.heap.size w' a cap xs ∧ Below w.heap.size w w'

end Go.Proofs.SL
