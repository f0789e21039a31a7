/- Alias tables: plain: each place waits, or is filled; one at least waits. -/
import Derived.Test.YticickjnlkbkoaaGreatAliC
namespace Go.Proofs.AL
open Go.RowKit
open Go.Proofs
open Go
set_option linter.unusedVariables false
set_option linter.unusedSimpArgs false
structure Pl (n : Nat) (s : Int) (t : St) : Prop where
  at' : ∀ i : Nat, i < n → (t.cu i = s ∧ t.ot i = i) ∨ (i ∉ t.lo ∧ i ∉ t.hi ∧ 0 ≤ t.cu i ∧ t.cu i < s ∧ ∃ j : Nat, t.ot i = j ∧ j < n ∧ j ≠ i)
  some : t.lo ≠ [] ∨ t.hi ≠ []
theorem Pl.step {n : Nat} {s : Int} {t : St} (hO : Ok n s t) (h : Pl n s t) {lo' hi' : List Nat} {l k : Nat} (hl : t.lo = lo' ++ [l]) (hk : t.hi = hi' ++ [k]) : Pl n s (step3 s t l k lo' hi') := by
  obtain ⟨-, hlk, b1, b2, b3, b4, hln, hkn⟩ := hO.step hl hk
  have hnd := hO.nodup
  rw [hl, hk] at hnd
  simp only [List.nodup_append, List.mem_append, List.mem_singleton, List.nodup_cons, List.not_mem_nil, not_false_eq_true, List.nodup_nil, and_true, true_and, forall_eq] at hnd
  obtain ⟨⟨n1, n2⟩, ⟨n3, n4⟩, n5⟩ := hnd
  have l1 : l ∉ lo' := fun hx => n2 l hx rfl
  have l2 : l ∉ hi' := fun hx => n5 l (.inr rfl) l (.inl hx) rfl
  have hlo : ∀ x, x ∈ (step3 s t l k lo' hi').lo → x ∈ lo' ∨ x = k := fun x hx => by
    simp only [step3] at hx
    split at hx
    · rcases List.mem_append.1 hx with h | h
      · exact .inl h
      · exact .inr (by simpa using h)
    · exact .inl hx
  have hhi : ∀ x, x ∈ (step3 s t l k lo' hi').hi → x ∈ hi' ∨ x = k := fun x hx => by
    simp only [step3] at hx
    split at hx
    · exact .inl hx
    · rcases List.mem_append.1 hx with h | h
      · exact .inl h
      · exact .inr (by simpa using h)
  refine ⟨fun i hi => ?_, ?_⟩
  · by_cases e : i = l
    · subst e
      right
      refine ⟨fun hx => ?_, fun hx => ?_, ?_, ?_, k, ?_, hkn, fun e => hlk e.symm⟩
      · rcases hlo i hx with h | h
        · exact l1 h
        · exact hlk h
      · rcases hhi i hx with h | h
        · exact l2 h
        · exact hlk h
      · simp only [step3, put_eq]; exact b1
      · simp only [step3, put_eq]; exact b2
      · simp only [step3, put_eq]
    · have e1 : (step3 s t l k lo' hi').cu i = t.cu i := by simp only [step3]; exact put_ne _ _ e
      have e2 : (step3 s t l k lo' hi').ot i = t.ot i := by simp only [step3]; exact put_ne _ _ e
      rw [e1, e2]
      rcases h.at' i hi with hx | ⟨x1, x2, x3⟩
      · exact .inl hx
      · right
        refine ⟨fun hx => ?_, fun hx => ?_, x3⟩
        · rcases hlo i hx with h | h
          · exact x1 (by rw [hl]; simp [h])
          · exact x2 (by rw [hk]; simp [h])
        · rcases hhi i hx with h | h
          · exact x2 (by rw [hk]; simp [h])
          · exact x2 (by rw [hk]; simp [h])
  · simp only [step3]
    by_cases hc : t.ht k - (s - t.ht l) < s
    · left; rw [if_pos hc]; simp
    · right; rw [if_neg hc]; simp
theorem pl_run {n : Nat} {s : Int} : ∀ (f : Nat) (t : St), Ok n s t → Pl n s t → Pl n s (run3 s f t) ∧ Ok n s (run3 s f t)
  | 0, t, hO, h => ⟨h, hO⟩
  | f + 1, t, hO, h => by
    by_cases h1 : t.lo = []
    · rw [run3, dif_pos h1]; exact ⟨h, hO⟩
    by_cases h2 : t.hi = []
    · rw [run3, dif_neg h1, dif_pos h2]; exact ⟨h, hO⟩
    have e1 := (List.dropLast_concat_getLast h1).symm
    have e2 := (List.dropLast_concat_getLast h2).symm
    rw [run3_step e1 e2]
    exact pl_run f _ (hO.step e1 e2).1 (h.step hO e1 e2)
theorem st2_at (n : Nat) (s : Int) (w : Nat → Int) : ∀ m i : Nat, i < m → (st2 n s w m).cu i = s ∧ (st2 n s w m).ot i = i
  | 0, i, h => by omega
  | m + 1, i, h => by
    simp only [st2, step2]
    by_cases e : i = m
    · subst e; simp only [put_eq, and_self]
    · rw [put_ne _ _ e, put_ne _ _ e]
      exact st2_at n s w m i (by omega)
theorem table_pl {n : Nat} {w : Nat → Int} (hn : 1 ≤ n) (h0 : ∀ i, 0 ≤ (n : Int) * w i) (h1 : ∀ i, (n : Int) * w i ≤ 134217728) : Pl n (up w n) (table n w) ∧ Ok n (up w n) (table n w) := by
  refine pl_run _ _ (Ok.start h0 h1 n (Nat.le_refl _)).1 ⟨fun i hi => .inl (st2_at _ _ _ n i hi), ?_⟩
  obtain ⟨-, -, h3⟩ := st2_lt n (up w n) w n
  by_cases h : (st2 n (up w n) w n).lo = []
  · right
    intro h4
    rw [h, h4] at h3
    simp at h3; omega
  · exact .inl h
/-- how many are filled -/
def lowc (s : Int) (cu : Nat → Int) : Nat → Nat
  | 0 => 0
  | k + 1 => lowc s cu k + (if cu k < s then 1 else 0)
theorem lowc_le (s : Int) (cu : Nat → Int) : ∀ k, lowc s cu k ≤ k
  | 0 => Nat.le_refl _
  | k + 1 => by have := lowc_le s cu k; simp only [lowc]; split <;> omega
theorem lowc_lt {s : Int} {cu : Nat → Int} {j : Nat} (hj : ¬ cu j < s) : ∀ k, j < k → lowc s cu k < k
  | 0, h => by omega
  | k + 1, h => by
    simp only [lowc]
    by_cases e : j = k
    · subst e
      have := lowc_le s cu j
      rw [if_neg hj]; omega
    · have := lowc_lt hj k (by omega)
      split <;> omega
theorem table_low {n : Nat} {s : Int} {t : St} (hP : Pl n s t) (hO : Ok n s t) : lowc s t.cu n < n := by
  have key : ∃ j, j < n ∧ t.cu j = s := by
    rcases hP.some with h | h
    · obtain ⟨x, hx⟩ := List.exists_mem_of_ne_nil _ h
      have hxn := hO.lt x (by simp [hx])
      rcases hP.at' x hxn with h1 | h1
      · exact ⟨x, hxn, h1.1⟩
      · exact absurd hx h1.1
    · obtain ⟨x, hx⟩ := List.exists_mem_of_ne_nil _ h
      have hxn := hO.lt x (by simp [hx])
      rcases hP.at' x hxn with h1 | h1
      · exact ⟨x, hxn, h1.1⟩
      · exact absurd hx h1.2.1
  obtain ⟨j, hj, he⟩ := key
  exact lowc_lt (by omega) n hj
end Go.Proofs.AL
