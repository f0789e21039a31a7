/- Lesser strings: what they are. No program in sight. -/
import Derived.Test.YtbmifejeffgobaaDoorBitsP
import Derived.Test.YtbmifejeffgobaaDoorRange
namespace Go.Proofs.CT
open Go.RowKit
open Go.Proofs
open Go.Proofs.BT
open Go.Proofs.RO
open Go
set_option linter.unusedVariables false
set_option linter.unusedSimpArgs false
/-- what a way tells of the parts of n bits from a place on, c of them -/
def rem (f : ByteArray → Nat → Nat → ByteArray) (u : ByteArray) (n : Nat) : Nat → Nat → List ByteArray
  | _, 0 => []
  | a, c + 1 => (if f u a n = u then [] else [f u a n]) ++ rem f u n (a + 1) c
/-- what a way tells of all its parts of n bits -/
def partN (f : ByteArray → Nat → Nat → ByteArray) (u : ByteArray) (n : Nat) : List ByteArray := rem f u n 0 (u.size + 1 - n)
/-- of those of 8, 4, 2, 1 bits, from the j-th on -/
def partJ (f : ByteArray → Nat → Nat → ByteArray) (u : ByteArray) : Nat → List ByteArray
  | 0 => partN f u 8 ++ (partN f u 4 ++ (partN f u 2 ++ partN f u 1))
  | 1 => partN f u 4 ++ (partN f u 2 ++ partN f u 1)
  | 2 => partN f u 2 ++ partN f u 1
  | 3 => partN f u 1
  | _ => []
def wid : Nat → Nat
  | 0 => 8
  | 1 => 4
  | 2 => 2
  | _ => 1
theorem partJ_next (f : ByteArray → Nat → Nat → ByteArray) (u : ByteArray) (j : Nat) (h : j < 4) : partJ f u j = partN f u (wid j) ++ partJ f u (j + 1) := by
  match j, h with
  | 0, _ => rfl
  | 1, _ => rfl
  | 2, _ => rfl
  | 3, _ => simp [partJ, wid]
/-- what is told of a 1 that becomes a 0, from a place on -/
def downs (u : ByteArray) : Nat → Nat → List ByteArray
  | _, 0 => []
  | a, c + 1 => (if h : a < u.size then (if u[a] = 49 then [downB u a] else []) else []) ++ downs u (a + 1) c
/-- the lesser strings -/
def cands (u : ByteArray) : List ByteArray := if isB u then partJ cutB u 0 ++ (partJ clearB u 0 ++ downs u 0 u.size) else []
/-- the same text, or not, as the program asks it -/
theorem seq_yes {X u : ByteArray} (h : X = u) : (X.toList == u.toList) = true := by rw [h]; exact beq_self_eq_true _
theorem seq_no {X u : ByteArray} (h : ¬ X = u) : (X.toList == u.toList) = false := by
  rw [beq_eq_false_iff_ne]
  intro e
  rw [ByteArray.toList_eq, ByteArray.toList_eq] at e
  exact h (ByteArray.ext (Array.toList_inj.1 e))
/-- the k-th of a row, and those behind -/
theorem drop_at {cs : List ByteArray} {k : Nat} {x : ByteArray} {r : List ByteArray} (h : cs.drop k = x :: r) : k < cs.length ∧ cs.getD k ⟨#[]⟩ = x ∧ cs.drop (k + 1) = r := by
  have hk : k < cs.length := by
    rcases Nat.lt_or_ge k cs.length with h' | h'
    · exact h'
    · rw [List.drop_eq_nil_of_le h'] at h; cases h
  rw [List.drop_eq_getElem_cons hk] at h
  injection h with h1 h2
  exact ⟨hk, by rw [List.getD_eq_getElem?_getD, List.getElem?_eq_getElem hk]; exact h1, h2⟩
theorem drop_end {cs : List ByteArray} {k : Nat} (hk : k ≤ cs.length) (h : cs.drop k = []) : k = cs.length := by
  have := List.length_drop (l := cs) (i := k)
  rw [h] at this
  simp at this
  omega
end Go.Proofs.CT
