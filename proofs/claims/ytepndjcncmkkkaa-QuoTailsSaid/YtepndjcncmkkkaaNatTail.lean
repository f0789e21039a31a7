/- The contracts of tombolalaw02.tail (a natural with so many 0s at its end) and of trimmed. -/
import Derived.Test.YtepndjcncmkkkaaNatLaw
import Derived.Test.YtepndjcncmkkkaaZeros
namespace Go.Proofs.LN
open Go.RowKit
open Go.Proofs
open Go.Proofs.NP
open Go.Proofs.SL
open Go.Proofs.NR
set_option linter.unusedVariables false

theorem Ws_app {xs : List Nat} (hd : Ws xs) (n : Nat) : Ws (xs ++ List.replicate n 0) := by
  intro x hx
  rcases List.mem_append.1 hx with h | h
  · exact hd x h
  · rw [List.eq_of_mem_replicate h]; decide
theorem val_zeros (n : Nat) : val 18446744073709551616 (List.replicate n 0) = 0 := by
  induction n with
  | zero => rfl
  | succ n ih => rw [List.replicate_succ]; simp only [val, ih]
theorem V_app (xs : List Nat) (n : Nat) : V (xs ++ List.replicate n 0) = V xs := by
  unfold V
  induction xs with
  | nil => simpa [val] using val_zeros n
  | cons x xs ih => simp only [List.cons_append, val, ih]

/-- a nil row has no room -/
theorem rows_cap {k : IntKind} {w : World} {a : Option Addr} {l ca : Nat} {zs : List Int}
    (h : (a = none ∧ l = 0 ∧ ca = 0 ∧ zs = []) ∨ ∃ x, a = some x ∧ l ≤ ca ∧ ca ≤ maxLen ∧ zs.length = ca ∧ (∀ i, i < zs.length → w.cell? (x.add i) = some (.int k (zs.getD i 0))) ∧ ∀ n ∈ zs, (Lit.int k n).wf = true) : a = none → ca = 0 := by
  rintro rfl
  rcases h with ⟨_, _, h, _⟩ | ⟨x, h, _⟩
  · exact h
  · cases h
theorem last_ne {n : Nat} {xs : List Nat} (h : xs = L n) (hx : xs ≠ []) : xs[xs.length - 1]'(by have := List.length_pos_iff.2 hx; omega) ≠ 0 := by
  subst h
  rw [← List.getLast_eq_getElem hx]
  exact digs_last _ (by decide) n hx
end Go.Proofs.LN
