/- Alias tables: what AliasEvenly's loop keeps. -/
import Derived.Test.YticickjnlkbkoaaAltE
import Derived.Test.YticickjnlkbkoaaBelT
namespace Go.Proofs.AL
open Go.RowKit
open Go.Proofs
open Go.Proofs.SL
open Go.Proofs.RA
open Go.Proofs.BL
open Go
set_option linter.unusedVariables false
set_option linter.unusedSimpArgs false
/-- X is as V, but for two blocks, and what was laid since -/
structure Sv (V : World) (ga gl : Nat) (X : World) : Prop where
  size : V.heap.size ≤ X.heap.size
  same : ∀ k, k < V.heap.size → k ≠ ga → k ≠ gl → X.heap[k]? = V.heap[k]?
variable {V X X' : World} {ga gl : Nat}
theorem Sv.refl (V : World) (ga gl : Nat) : Sv V ga gl V := ⟨Nat.le_refl _, fun _ _ _ _ => rfl⟩
theorem Sv.bk {k : Nat} {cs : Array Value} {T : TypeId} (h : Sv V ga gl X) (hb : Bk V k cs T) (h1 : k ≠ ga) (h2 : k ≠ gl) : Bk X k cs T := (h.same k hb.lt h1 h2).trans hb
theorem Sv.box {k : Nat} {v : Value} {T : TypeId} (h : Sv V ga gl X) (hb : Boxed V k T v) (h1 : k ≠ ga) (h2 : k ≠ gl) : Boxed X k T v := (h.same k hb.lt h1 h2).trans hb
theorem Sv.tb {g gc go n : Nat} {s : Int} {cu ot : Nat → Int} (h : Sv V ga gl X) (ht : Tb V g gc go n s cu ot) (h1 : g ≠ ga ∧ gc ≠ ga ∧ go ≠ ga) (h2 : g ≠ gl ∧ gc ≠ gl ∧ go ≠ gl) : Tb X g gc go n s cu ot :=
  ⟨h.bk ht.tb h1.1 h2.1, h.bk ht.cb h1.2.1 h2.2.1, h.bk ht.ob h1.2.2 h2.2.2⟩
theorem Sv.grown {row : Option Nat} (h : Sv V ga gl X) (hg : X.grownBy X' row) (hr : ∀ k, row = some k → V.heap.size ≤ k ∨ k = ga ∨ k = gl) : Sv V ga gl X' :=
  ⟨Nat.le_trans h.size hg.size, fun k h1 h2 h3 => (hg.block k (Nat.lt_of_lt_of_le h1 h.size) (fun e => by rcases hr k e.symm with h4 | h4 | h4 <;> omega)).trans (h.same k h1 h2 h3)⟩
theorem Sv.below (h : Sv V ga gl X) (hb : Below X.heap.size X X') : Sv V ga gl X' :=
  ⟨Nat.le_trans h.size hb.size, fun k h1 h2 h3 => (hb.block k (Nat.lt_of_lt_of_le h1 h.size)).trans (h.same k h1 h2 h3)⟩
theorem own_sv {β : Type} {B : Nat} (hB : V.heap.size ≤ B) : OwnFrom B (fun (_ : β) X => Sv V ga gl X) :=
  fun s A A' row hs hg hr => hs.grown hg (fun k e => .inl (Nat.le_trans hB (hr k e).1))
/-- what is laid ahead of the loop -/
theorem four (W : World) (n : Nat) (p : Value) (TP S6 I6 : TypeId) :
    Boxed ((((W.alloc (.cells #[p] TP)).alloc (.cells (row n (fun _ => 0)) I6)).alloc (.cells #[.slice (some ⟨W.heap.size + 1, 0, none⟩) n n] S6)).alloc (.cells #[.int .i64 0] I6)) W.heap.size TP p ∧
    Bk ((((W.alloc (.cells #[p] TP)).alloc (.cells (row n (fun _ => 0)) I6)).alloc (.cells #[.slice (some ⟨W.heap.size + 1, 0, none⟩) n n] S6)).alloc (.cells #[.int .i64 0] I6)) (W.heap.size + 1) (cnts n (fun _ => 0)) I6 ∧
    Boxed ((((W.alloc (.cells #[p] TP)).alloc (.cells (row n (fun _ => 0)) I6)).alloc (.cells #[.slice (some ⟨W.heap.size + 1, 0, none⟩) n n] S6)).alloc (.cells #[.int .i64 0] I6)) (W.heap.size + 1 + 1) S6 (.slice (some ⟨W.heap.size + 1, 0, none⟩) n n) ∧
    Boxed ((((W.alloc (.cells #[p] TP)).alloc (.cells (row n (fun _ => 0)) I6)).alloc (.cells #[.slice (some ⟨W.heap.size + 1, 0, none⟩) n n] S6)).alloc (.cells #[.int .i64 0] I6)) (W.heap.size + 1 + 1 + 1) I6 (.int .i64 ((0 : Nat) : Int)) ∧
    Kp W ((((W.alloc (.cells #[p] TP)).alloc (.cells (row n (fun _ => 0)) I6)).alloc (.cells #[.slice (some ⟨W.heap.size + 1, 0, none⟩) n n] S6)).alloc (.cells #[.int .i64 0] I6)) ∧
    ((((W.alloc (.cells #[p] TP)).alloc (.cells (row n (fun _ => 0)) I6)).alloc (.cells #[.slice (some ⟨W.heap.size + 1, 0, none⟩) n n] S6)).alloc (.cells #[.int .i64 0] I6)).heap.size = W.heap.size + 1 + 1 + 1 + 1 := by
  obtain ⟨A, hA⟩ : ∃ A, W.alloc (.cells #[p] TP) = A := ⟨_, rfl⟩
  have sA : A.heap.size = W.heap.size + 1 := by rw [← hA, World.size_alloc]
  have bA := Boxed.new W TP p
  have kA := (Kp.refl W).al (.cells #[p] TP)
  rw [hA] at bA kA
  obtain ⟨B, hB⟩ : ∃ B, A.alloc (.cells (row n (fun _ => 0)) I6) = B := ⟨_, rfl⟩
  have sB : B.heap.size = W.heap.size + 1 + 1 := by rw [← hB, World.size_alloc, sA]
  have bB := Bk.new A (row n (fun _ => 0)) I6
  have kB := (Kp.refl A).al (.cells (row n (fun _ => 0)) I6)
  rw [hB] at bB kB
  rw [sA] at bB
  obtain ⟨C, hC⟩ : ∃ C, B.alloc (.cells #[.slice (some ⟨W.heap.size + 1, 0, none⟩) n n] S6) = C := ⟨_, rfl⟩
  have sC : C.heap.size = W.heap.size + 1 + 1 + 1 := by rw [← hC, World.size_alloc, sB]
  have bC := Boxed.new B S6 (.slice (some ⟨W.heap.size + 1, 0, none⟩) n n)
  have kC := (Kp.refl B).al (.cells #[.slice (some ⟨W.heap.size + 1, 0, none⟩) n n] S6)
  rw [hC] at bC kC
  rw [sB] at bC
  obtain ⟨D, hD⟩ : ∃ D, C.alloc (.cells #[.int .i64 0] I6) = D := ⟨_, rfl⟩
  have sD : D.heap.size = W.heap.size + 1 + 1 + 1 + 1 := by rw [← hD, World.size_alloc, sC]
  have bD := Boxed.new C I6 (.int .i64 0)
  have kD := (Kp.refl C).al (.cells #[.int .i64 0] I6)
  rw [hD] at bD kD
  rw [sC] at bD
  rw [hA, hB, hC, hD]
  exact ⟨boxed_nx (boxed_nx (boxed_nx bA kB) kC) kD, (bB.nx kC).nx kD, boxed_nx bC kD, bD, Kp.nx (Kp.nx (Kp.nx kA kB) kC) kD, sD⟩
end Go.Proofs.AL
