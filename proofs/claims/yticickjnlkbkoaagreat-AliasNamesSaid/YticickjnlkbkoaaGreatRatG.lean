/- Fractions that are not below 0: Cmp, sums, products. -/
import Derived.Test.YticickjnlkbkoaaGreatRatF
import Derived.BigRegion
namespace Go.Proofs.RA
open Go.RowKit
open Go.Proofs
open Go.Proofs.NP
open Go.Proofs.SL
open Go.Proofs.NR (Fits GivesE)
set_option linter.unusedVariables false
set_option linter.unusedSimpArgs false
set_option maxRecDepth 20000
variable {w : World} {a b a' b' : Option Addr} {ca cb ca' cb' l k l' k' : Nat} {xs ys zs us vs xs' ys' us' vs' : List Nat}
theorem R2.all3 {w W : World} {x0 x1 x2 y0 y1 y2 : Value} {T1 T2 : TypeId} (h : R2 w W #[x0, x1, x2] T1 #[y0, y1, y2] T2) :
    W.cell? ⟨w.heap.size, 0, none⟩ = some x0 ∧ W.cell? ⟨w.heap.size, 1, none⟩ = some x1 ∧ W.cell? ⟨w.heap.size, 2, none⟩ = some x2 ∧ W.cell? ⟨w.heap.size + 1, 0, none⟩ = some y0 ∧ W.cell? ⟨w.heap.size + 1, 1, none⟩ = some y1 ∧ W.cell? ⟨w.heap.size + 1, 2, none⟩ = some y2 :=
  ⟨h.b1.c 0, h.b1.c 1, h.b1.c 2, h.b2.c 0, h.b2.c 1, h.b2.c 2⟩
theorem R2.fr {w W : World} {c1 c2 : Array Value} {T1 T2 : TypeId} (h : R2 w W c1 T1 c2 T2) :
    W.frozen? ⟨w.heap.size, 0, none⟩ = false ∧ W.frozen? ⟨w.heap.size, 1, none⟩ = false ∧ W.frozen? ⟨w.heap.size, 2, none⟩ = false ∧ W.frozen? ⟨w.heap.size + 1, 0, none⟩ = false ∧ W.frozen? ⟨w.heap.size + 1, 1, none⟩ = false ∧ W.frozen? ⟨w.heap.size + 1, 2, none⟩ = false :=
  ⟨h.b1.f 0, h.b1.f 1, h.b1.f 2, h.b2.f 0, h.b2.f 1, h.b2.f 2⟩
theorem Bk.other3 {W : World} {b g : Nat} {cs : Array Value} {T : TypeId} (h : Bk W b cs T) (hne : b ≠ g) (x y z : Value) : Bk (RA.put3 W g x y z) b cs T := ((h.other hne 0 x).other hne 1 y).other hne 2 z
theorem size_put3 (W : World) (g : Nat) (x y z : Value) : (RA.put3 W g x y z).heap.size = W.heap.size := by
  unfold RA.put3
  rw [World.size_setCell, World.size_setCell, World.size_setCell]
theorem R2.put {w W : World} {x0 x1 x2 y0 y1 y2 : Value} {T1 T2 : TypeId} (h : R2 w W #[x0, x1, x2] T1 #[y0, y1, y2] T2) (u0 u1 u2 v0 v1 v2 : Value) :
    R2 w (RA.put3 (RA.put3 W w.heap.size u0 u1 u2) (w.heap.size + 1) v0 v1 v2) #[u0, u1, u2] T1 #[v0, v1, v2] T2 :=
  ⟨(h.b1.put3 u0 u1 u2).other3 (by omega) _ _ _, (h.b2.other3 (by omega) u0 u1 u2).put3 v0 v1 v2, Kp.put3 (Kp.put3 h.kw (Nat.le_refl _) _ _ _) (Nat.le_succ _) _ _ _, by rw [size_put3, size_put3]; exact h.sz⟩
end Go.Proofs.RA
