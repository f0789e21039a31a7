/- Alias tables: plain: weights so many times as great: the others the same, the cuts so many times as great. -/
import Derived.Test.YticickjnlkbkoaaAliP
namespace Go.Proofs.AL
open Go.RowKit
open Go.Proofs
open Go
set_option linter.unusedVariables false
set_option linter.unusedSimpArgs false
/-- so many times as great -/
def sc (c : Int) (f : Nat → Int) : Nat → Int := fun i => c * f i
def St.sc (c : Int) (t : St) : St := ⟨AL.sc c t.ht, AL.sc c t.cu, t.ot, t.lo, t.hi⟩
theorem put_sc (c : Int) (f : Nat → Int) (x : Nat) (v : Int) : put (AL.sc c f) x (c * v) = AL.sc c (put f x v) := by
  funext y
  by_cases e : y = x <;> simp [put, AL.sc, e]
theorem lt_sc {c : Int} (hc : 0 < c) (x y : Int) : c * x < c * y ↔ x < y := Int.mul_lt_mul_left hc
theorem up_sc (c : Int) (w : Nat → Int) : ∀ m, up (AL.sc c w) m = c * up w m
  | 0 => by simp [up]
  | m + 1 => by rw [up, up, up_sc c w m, Int.mul_add]; rfl
theorem st2_sc {c : Int} (hc : 0 < c) (n : Nat) (s : Int) (w : Nat → Int) : ∀ m, st2 n (c * s) (AL.sc c w) m = (st2 n s w m).sc c
  | 0 => by
    have e : AL.sc c (fun _ => 0) = fun _ => 0 := by funext y; simp [AL.sc]
    simp [st2, st0, St.sc, e]
  | m + 1 => by
    have e1 : (n : Int) * AL.sc c w m = c * (n * w m) := by unfold AL.sc; rw [Int.mul_left_comm]
    rw [st2, st2, st2_sc hc n s w m]
    unfold step2
    simp only [St.sc]
    rw [e1, put_sc, put_sc]
    by_cases h : (n : Int) * w m < s
    · have h2 := (lt_sc hc _ _).2 h
      simp only [if_pos h, if_pos h2]
    · have h2 : ¬ c * (n * w m) < c * s := fun h3 => h ((lt_sc hc _ _).1 h3)
      simp only [if_neg h, if_neg h2]
theorem step3_sc {c : Int} (hc : 0 < c) (s : Int) (t : St) (l k : Nat) (lo' hi' : List Nat) : step3 (c * s) (t.sc c) l k lo' hi' = (step3 s t l k lo' hi').sc c := by
  have e1 : AL.sc c t.ht k - (c * s - AL.sc c t.ht l) = c * (t.ht k - (s - t.ht l)) := by
    unfold AL.sc
    rw [Int.mul_sub, Int.mul_sub]
  have e2 : put (AL.sc c t.cu) l (AL.sc c t.ht l) = AL.sc c (put t.cu l (t.ht l)) := put_sc c t.cu l (t.ht l)
  have e3 : put (AL.sc c t.ht) k (AL.sc c t.ht k - (c * s - AL.sc c t.ht l)) = AL.sc c (put t.ht k (t.ht k - (s - t.ht l))) := by rw [e1]; exact put_sc c t.ht k _
  by_cases h : t.ht k - (s - t.ht l) < s
  · have h2 : AL.sc c t.ht k - (c * s - AL.sc c t.ht l) < c * s := by rw [e1]; exact (lt_sc hc _ _).2 h
    unfold step3 St.sc
    dsimp only
    rw [if_pos h2, if_pos h2, if_pos h, if_pos h, e2, e3]
  · have h2 : ¬ AL.sc c t.ht k - (c * s - AL.sc c t.ht l) < c * s := by rw [e1]; exact fun h3 => h ((lt_sc hc _ _).1 h3)
    unfold step3 St.sc
    dsimp only
    rw [if_neg h2, if_neg h2, if_neg h, if_neg h, e2, e3]
theorem run3_sc {c : Int} (hc : 0 < c) (s : Int) : ∀ (f : Nat) (t : St), run3 (c * s) f (t.sc c) = (run3 s f t).sc c
  | 0, t => rfl
  | f + 1, t => by
    by_cases h1 : t.lo = []
    · rw [run3_end (.inl h1), run3_end (t := t.sc c) (.inl h1)]
    by_cases h2 : t.hi = []
    · rw [run3_end (.inr h2), run3_end (t := t.sc c) (.inr h2)]
    have e1 := (List.dropLast_concat_getLast h1).symm
    have e2 := (List.dropLast_concat_getLast h2).symm
    rw [run3_step e1 e2, run3_step (t := t.sc c) (lo' := t.lo.dropLast) (hi' := t.hi.dropLast) e1 e2, step3_sc hc, run3_sc hc s f]
theorem table_sc {c : Int} (hc : 0 < c) (n : Nat) (w : Nat → Int) : table n (AL.sc c w) = (table n w).sc c := by
  rw [table, table, up_sc, st2_sc hc, run3_sc hc]
end Go.Proofs.AL
