/- Alias tables: plain: the columns give each place its weight. -/
import Derived.Test.YticickjnlkbkoaaAliK
namespace Go.Proofs.AL
open Go.RowKit
open Go.Proofs
open Go
set_option linter.unusedVariables false
set_option linter.unusedSimpArgs false
/-- heights together -/
def hs (f : Nat → Int) : List Nat → Int
  | [] => 0
  | x :: r => f x + hs f r
theorem hs_app (f : Nat → Int) (a b : List Nat) : hs f (a ++ b) = hs f a + hs f b := by
  induction a with
  | nil => simp [hs]
  | cons x r ih => simp only [List.cons_append, hs, ih]; omega
theorem hs_congr {f g : Nat → Int} {a : List Nat} (h : ∀ x ∈ a, f x = g x) : hs f a = hs g a := by
  induction a with
  | nil => rfl
  | cons x r ih => rw [hs, hs, h x (by simp), ih (fun y hy => h y (by simp [hy]))]
theorem hs_lt {f : Nat → Int} {s : Int} {a : List Nat} (h : ∀ x ∈ a, f x < s) (hne : a ≠ []) : hs f a < a.length * s := by
  induction a with
  | nil => exact absurd rfl hne
  | cons x r ih =>
    have h1 := h x (by simp)
    have e : ((x :: r).length : Int) * s = r.length * s + s := by rw [List.length_cons, Int.natCast_add, Int.add_mul]; simp
    rw [hs, e]
    by_cases hr : r = []
    · subst hr; simp [hs]; omega
    · have := ih (fun y hy => h y (by simp [hy])) hr
      omega
theorem hs_ge {f : Nat → Int} {s : Int} {a : List Nat} (h : ∀ x ∈ a, s ≤ f x) : a.length * s ≤ hs f a := by
  induction a with
  | nil => simp [hs]
  | cons x r ih =>
    have h1 := h x (by simp)
    have e : ((x :: r).length : Int) * s = r.length * s + s := by rw [List.length_cons, Int.natCast_add, Int.add_mul]; simp
    have := ih (fun y hy => h y (by simp [hy]))
    rw [hs, e]; omega
theorem hs_all {f : Nat → Int} {s : Int} {a : List Nat} (h : ∀ x ∈ a, s ≤ f x) (he : hs f a = a.length * s) : ∀ x ∈ a, f x = s := by
  induction a with
  | nil => intro x hx; cases hx
  | cons x r ih =>
    have h1 := h x (by simp)
    have h2 := hs_ge (f := f) (s := s) (a := r) (fun y hy => h y (by simp [hy]))
    have e : ((x :: r).length : Int) * s = r.length * s + s := by rw [List.length_cons, Int.natCast_add, Int.add_mul]; simp
    rw [hs, e] at he
    intro y hy
    rcases List.mem_cons.1 hy with rfl | hy
    · omega
    · exact ih (fun z hz => h z (by simp [hz])) (by omega) y hy
/-- the heights of those that wait are as many sums -/
def Sm (s : Int) (t : St) : Prop := hs t.ht t.lo + hs t.ht t.hi = (t.lo.length + t.hi.length : Nat) * s
theorem Sm.step {n : Nat} {s : Int} {t : St} (hO : Ok n s t) (h : Sm s t) {lo' hi' : List Nat} {l k : Nat} (hl : t.lo = lo' ++ [l]) (hk : t.hi = hi' ++ [k]) : Sm s (step3 s t l k lo' hi') := by
  obtain ⟨-, hlk, -⟩ := hO.step hl hk
  have hnd := hO.nodup
  unfold Sm at h
  rw [hl, hk] at hnd h
  simp only [List.nodup_append, List.mem_append, List.mem_singleton, List.nodup_cons, List.not_mem_nil, not_false_eq_true, List.nodup_nil, and_true, true_and, forall_eq] at hnd
  obtain ⟨⟨n1, n2⟩, ⟨n3, n4⟩, n5⟩ := hnd
  have e1 : ∀ v, hs (put t.ht k v) lo' = hs t.ht lo' := fun v => hs_congr (fun x hx => put_ne _ _ (fun e => n5 x (.inl hx) k (.inr rfl) e))
  have e2 : ∀ v, hs (put t.ht k v) hi' = hs t.ht hi' := fun v => hs_congr (fun x hx => put_ne _ _ (fun e => n4 x hx e))
  have e3 : ((lo' ++ [l]).length + (hi' ++ [k]).length : Nat) * s = ((lo'.length + hi'.length : Nat) : Int) * s + s + s := by
    have : ((lo' ++ [l]).length + (hi' ++ [k]).length : Nat) = (lo'.length + hi'.length) + 1 + 1 := by simp; omega
    rw [this, Int.natCast_add, Int.natCast_add, Int.add_mul, Int.add_mul]; simp
  rw [e3, hs_app, hs_app] at h
  simp only [hs] at h
  unfold Sm
  by_cases hc : t.ht k - (s - t.ht l) < s
  · simp only [step3, if_pos hc]
    have e4 : ((lo' ++ [k]).length + hi'.length : Nat) * s = ((lo'.length + hi'.length : Nat) : Int) * s + s := by
      have : ((lo' ++ [k]).length + hi'.length : Nat) = (lo'.length + hi'.length) + 1 := by simp; omega
      rw [this, Int.natCast_add, Int.add_mul]; simp
    rw [e4, hs_app, e1, e2]
    simp only [hs, put_eq]
    omega
  · simp only [step3, if_neg hc]
    have e4 : (lo'.length + (hi' ++ [k]).length : Nat) * s = ((lo'.length + hi'.length : Nat) : Int) * s + s := by
      have : (lo'.length + (hi' ++ [k]).length : Nat) = (lo'.length + hi'.length) + 1 := by simp; omega
      rw [this, Int.natCast_add, Int.add_mul]; simp
    rw [e4, hs_app, e1, e2]
    simp only [hs, put_eq]
    omega
theorem col_run {n : Nat} {s : Int} {w : Nat → Int} : ∀ (f : Nat) (t : St), t.lo.length + t.hi.length ≤ f → Ok n s t → Cv n s w t → Sm s t → Cv n s w (run3 s f t) ∧ Sm s (run3 s f t) ∧ ((run3 s f t).lo = [] ∨ (run3 s f t).hi = [])
  | 0, t, hf, hO, h, hS => ⟨h, hS, .inl (List.eq_nil_of_length_eq_zero (by show t.lo.length = 0; omega))⟩
  | f + 1, t, hf, hO, h, hS => by
    by_cases h1 : t.lo = []
    · rw [run3_end (.inl h1)]; exact ⟨h, hS, .inl h1⟩
    by_cases h2 : t.hi = []
    · rw [run3_end (.inr h2)]; exact ⟨h, hS, .inr h2⟩
    have e1 := (List.dropLast_concat_getLast h1).symm
    have e2 := (List.dropLast_concat_getLast h2).symm
    rw [run3_step e1 e2]
    refine col_run f _ ?_ (hO.step e1 e2).1 (h.step hO e1 e2) (hS.step hO e1 e2)
    have l1 : t.lo.length ≠ 0 := fun e => h1 (List.eq_nil_of_length_eq_zero e)
    have l2 : t.hi.length ≠ 0 := fun e => h2 (List.eq_nil_of_length_eq_zero e)
    by_cases hc : t.ht (t.hi.getLast h2) - (s - t.ht (t.lo.getLast h1)) < s
    · simp only [step3, if_pos hc]; simp; omega
    · simp only [step3, if_neg hc]; simp; omega
end Go.Proofs.AL
