/- Slices that lie in a world, read as lists of words, and how they stand over calls that only lay new blocks. No program in sight. -/
import Derived.Test.YtepndjcncmkkkaaSl
import Derived.Deep.Draws
namespace Go.Proofs.SL
open Go.RowKit
open Go.Proofs.NP
set_option linter.unusedVariables false

/-- the slice lies in w and reads xs -/
def Rd (w : World) (a : Option Addr) (cap : Nat) (xs : List Nat) : Prop := Sl w.heap.size w a cap xs

theorem ws_of (xs : List Nat) (h : (xs.all fun x => decide (x < 18446744073709551616)) = true) : Ws xs := by
  intro x hx
  have := List.all_eq_true.1 h x hx
  simpa using this

/-- w' has what w had, as it was -/
def Kp (w w' : World) : Prop := Below w.heap.size w w'

theorem Rd.sl {w : World} {a : Option Addr} {cap : Nat} {xs : List Nat} (h : Rd w a cap xs) : Sl w.heap.size w a cap xs := h
theorem Rd.nx {w w' : World} {a : Option Addr} {cap : Nat} {xs : List Nat} (h : Rd w a cap xs) (hb : Kp w w') : Rd w' a cap xs :=
  (Sl.below h hb (Nat.le_refl _)).mono hb.size
theorem Rd.al {w : World} {a : Option Addr} {cap : Nat} {xs : List Nat} (h : Rd w a cap xs) (o : Obj) : Rd (w.alloc o) a cap xs := h.nx ((Below.refl _ w).alloc (Nat.le_refl _) o)
theorem Rd.dr {w : World} {a : Option Addr} {cap : Nat} {xs : List Nat} (h : Rd w a cap xs) (k : Nat) : Rd (w.drewN k) a cap xs := h.nx (below_drewN (Below.refl _ w) k)
theorem Rd.dr1 {w : World} {a : Option Addr} {cap : Nat} {xs : List Nat} (h : Rd w a cap xs) : Rd w.drew a cap xs := h.nx (Below.refl _ w).drew
theorem Rd.ws {w : World} {a : Option Addr} {cap : Nat} {xs : List Nat} (h : Rd w a cap xs) : Ws xs := h.dig
theorem Rd.nil (w : World) : Rd w none 0 [] := ⟨Dig.nil _, by simp, by simp, .inl rfl⟩
theorem Own.rd {e : TypeId} {B : Nat} {w : World} {a : Option Addr} {cap : Nat} {xs : List Nat} (h : Own e B w a cap xs) : Rd w a cap xs := h.sl
/-- a literal that was laid last -/
theorem Rd.lit {w : World} {e : TypeId} (xs : List Nat) (cs : Array Value) (hd : Ws xs) (hcs : cs = (xs.map enc).toArray) (hm : xs.length ≤ 1000000) :
    Rd (w.alloc (.cells cs e)) (some ⟨w.heap.size, 0, none⟩) xs.length xs := (Own.lit xs hd cs hcs (Nat.le_refl w.heap.size) (by unfold maxLen; omega)).rd

/-- .. at a block number that the walk has written its own way -/
theorem Rd.litn {w : World} {e : TypeId} {n : Nat} (xs : List Nat) (cs : Array Value) (hd : Ws xs) (hcs : cs = (xs.map enc).toArray) (hm : xs.length ≤ 1000000) (hn : n = w.heap.size) :
    Rd (w.alloc (.cells cs e)) (some ⟨n, 0, none⟩) xs.length xs := by subst hn; exact Rd.lit xs cs hd hcs hm

theorem Kp.refl (w : World) : Kp w w := Below.refl _ _
theorem Kp.al {w w' : World} (h : Kp w w') (o : Obj) : Kp w (w'.alloc o) := Below.alloc h h.size o
theorem Kp.dr {w w' : World} (h : Kp w w') (k : Nat) : Kp w (w'.drewN k) := below_drewN h k
theorem Kp.dr1 {w w' : World} (h : Kp w w') : Kp w w'.drew := Below.drew h
theorem Kp.nx {w w1 w2 : World} (h : Kp w w1) (k : Kp w1 w2) : Kp w w2 := Below.trans h (Below.mono k h.size)
theorem Kp.below {w w' : World} (h : Kp w w') : Below w.heap.size w w' := h
/-- writes to blocks that the call itself has laid -/
theorem Kp.grown {w w1 w2 : World} {row : Option Nat} (h : Kp w w1) (hg : w1.grownBy w2 row) (hr : ∀ k, row = some k → w.heap.size ≤ k) : Kp w w2 := Below.grown h hg h.size hr

theorem Own.nx {e : TypeId} {B : Nat} {w w' : World} {a : Option Addr} {cap : Nat} {xs : List Nat} (h : Own e B w a cap xs) (hb : Kp w w') : Own e B w' a cap xs := h.below hb (Nat.le_refl _)
theorem Own.al {e : TypeId} {B : Nat} {w : World} {a : Option Addr} {cap : Nat} {xs : List Nat} (h : Own e B w a cap xs) (o : Obj) : Own e B (w.alloc o) a cap xs := h.nx ((Below.refl _ w).alloc (Nat.le_refl _) o)
theorem Own.dr {e : TypeId} {B : Nat} {w : World} {a : Option Addr} {cap : Nat} {xs : List Nat} (h : Own e B w a cap xs) (k : Nat) : Own e B (w.drewN k) a cap xs := h.nx (below_drewN (Below.refl _ w) k)

/-- the form of the guide's shells: a slice that came in -/
theorem Rd.of_row {w : World} {a : Option Addr} {len cap : Nat} {zs : List Int}
    (h : (a = none ∧ len = 0 ∧ cap = 0 ∧ zs = []) ∨ ∃ x, a = some x ∧ len ≤ cap ∧ cap ≤ maxLen ∧ zs.length = cap ∧ (∀ i, i < zs.length → w.cell? (x.add i) = some (.int .u64 (zs.getD i 0))) ∧ ∀ n ∈ zs, (Lit.int .u64 n).wf = true)
    (hb : ∀ n : Int, (Lit.int .u64 n).wf = true → 0 ≤ n ∧ n ≤ 18446744073709551615) :
    ∃ xs : List Nat, xs.length = len ∧ Rd w a cap xs := by
  rcases h with ⟨rfl, rfl, rfl, rfl⟩ | ⟨x, rfl, hl, hm, hz, hc, hw⟩
  · exact ⟨[], rfl, Rd.nil w⟩
  · have hlen : ((zs.take len).map Int.toNat).length = len := by simp; omega
    refine ⟨(zs.take len).map Int.toNat, hlen, ?_, by omega, hm, ?_⟩
    · intro y hy
      obtain ⟨z, hz', rfl⟩ := List.mem_map.1 hy
      have := hb z (hw z (List.mem_of_mem_take hz'))
      omega
    · by_cases h0 : len = 0
      · subst h0; exact .inl (by simp)
      · right
        obtain ⟨b, off, spot⟩ := x
        have hc0 := hc 0 (by omega)
        have hspot : spot = none := by simpa [Addr.add] using World.cell?_spot hc0
        subst hspot
        refine ⟨b, off, rfl, ?_, ?_⟩
        · have := World.block_lt_of_cell? w _ hc0
          simpa [Addr.add] using this
        · intro i hi
          have hi' : i < len := by rw [hlen] at hi; exact hi
          have hci := hc i (by omega)
          have e : (⟨b, off, none⟩ : Addr).add i = ⟨b, off + i, none⟩ := by unfold Addr.add; split <;> simp_all
          rw [e] at hci
          rw [hci]
          have hb' := hb (zs.getD i 0) (hw _ (by rw [List.getD_eq_getElem?_getD, List.getElem?_eq_getElem (show i < zs.length by omega)]; exact List.getElem_mem _))
          have : (((zs.take len).map Int.toNat)[i] : Nat) = (zs.getD i 0).toNat := by
            simp [List.getElem_take, List.getD_eq_getElem?_getD, List.getElem?_eq_getElem (show i < zs.length by omega)]
          rw [this, Int.toNat_of_nonneg hb'.1]

end Go.Proofs.SL
