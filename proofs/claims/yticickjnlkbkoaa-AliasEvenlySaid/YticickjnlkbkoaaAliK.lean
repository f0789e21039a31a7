/- Alias tables: plain: what the columns give to each place, along the way. -/
import Derived.Test.YticickjnlkbkoaaAliH
namespace Go.Proofs.AL
open Go.RowKit
open Go.Proofs
open Go
set_option linter.unusedVariables false
set_option linter.unusedSimpArgs false
/-- what other columns give to a place -/
def giv (s : Int) (cu ot : Nat → Int) (i : Nat) : Nat → Int
  | 0 => 0
  | k + 1 => giv s cu ot i k + (if ot k = i then s - cu k else 0)
theorem giv_congr {s : Int} {cu cu' ot ot' : Nat → Int} {i : Nat} : ∀ {n : Nat}, (∀ k, k < n → cu k = cu' k ∧ ot k = ot' k) → giv s cu ot i n = giv s cu' ot' i n
  | 0, _ => rfl
  | n + 1, h => by rw [giv, giv, giv_congr (fun k hk => h k (by omega)), (h n (by omega)).1, (h n (by omega)).2]
theorem giv_put {s : Int} {cu ot : Nat → Int} {i l : Nat} {u v : Int} (hz : cu l = s) : ∀ {n : Nat}, giv s (put cu l u) (put ot l v) i n = giv s cu ot i n + (if l < n ∧ v = i then s - u else 0)
  | 0 => by simp [giv]
  | n + 1 => by
    rw [giv, giv, giv_put hz]
    by_cases e : n = l
    · subst e
      rw [put_eq, put_eq, hz]
      simp
    · rw [put_ne _ _ e, put_ne _ _ e]
      have h1 : (l < n + 1 ∧ v = (i : Int)) ↔ (l < n ∧ v = (i : Int)) := by
        constructor
        · rintro ⟨a, b⟩; exact ⟨by omega, b⟩
        · rintro ⟨a, b⟩; exact ⟨by omega, b⟩
      by_cases h2 : l < n ∧ v = (i : Int)
      · rw [if_pos h2, if_pos (h1.2 h2)]; omega
      · rw [if_neg h2, if_neg (fun h => h2 (h1.1 h))]; omega
/-- a place's height, and what other columns give it, are its weight's -/
structure Cv (n : Nat) (s : Int) (w : Nat → Int) (t : St) : Prop where
  eq : ∀ i, i < n → t.ht i + giv s t.cu t.ot i n = n * w i
  wait : ∀ i, i ∈ t.lo ++ t.hi → t.cu i = s
  done : ∀ i, i < n → i ∉ t.lo → i ∉ t.hi → t.cu i = t.ht i
theorem Cv.step {n : Nat} {s : Int} {w : Nat → Int} {t : St} (hO : Ok n s t) (h : Cv n s w t) {lo' hi' : List Nat} {l k : Nat} (hl : t.lo = lo' ++ [l]) (hk : t.hi = hi' ++ [k]) : Cv n s w (step3 s t l k lo' hi') := by
  obtain ⟨-, hlk, b1, b2, b3, b4, hln, hkn⟩ := hO.step hl hk
  have hcl : t.cu l = s := h.wait l (by rw [hl]; simp)
  have hnd := hO.nodup
  rw [hl, hk] at hnd
  simp only [List.nodup_append, List.mem_append, List.mem_singleton, List.nodup_cons, List.not_mem_nil, not_false_eq_true, List.nodup_nil, and_true, true_and, forall_eq] at hnd
  obtain ⟨⟨n1, n2⟩, ⟨n3, n4⟩, n5⟩ := hnd
  have hmem : ∀ x, x ∈ (step3 s t l k lo' hi').lo ++ (step3 s t l k lo' hi').hi ↔ (x ∈ lo' ∨ x ∈ hi' ∨ x = k) := fun x => by
    by_cases hc : t.ht k - (s - t.ht l) < s
    · simp only [step3, if_pos hc, List.mem_append, List.mem_singleton]
      constructor
      · rintro ((a | b) | c)
        · exact .inl a
        · exact .inr (.inr b)
        · exact .inr (.inl c)
      · rintro (a | b | c)
        · exact .inl (.inl a)
        · exact .inr b
        · exact .inl (.inr c)
    · simp only [step3, if_neg hc, List.mem_append, List.mem_singleton]
  refine ⟨fun i hi => ?_, fun x hx => ?_, fun i hi x1 x2 => ?_⟩
  · have e1 : giv s (step3 s t l k lo' hi').cu (step3 s t l k lo' hi').ot i n = giv s t.cu t.ot i n + (if l < n ∧ (k : Int) = (i : Int) then s - t.ht l else 0) := giv_put hcl
    have e2 := h.eq i hi
    rw [e1]
    by_cases e : i = k
    · subst e
      rw [if_pos ⟨hln, rfl⟩]
      simp only [step3, put_eq]
      omega
    · have e3 : ¬ (l < n ∧ (k : Int) = (i : Int)) := by omega
      rw [if_neg e3]
      simp only [step3, put_ne _ _ e]
      omega
  · have hx2 := (hmem x).1 hx
    have hxl : x ≠ l := by
      rcases hx2 with h1 | h1 | h1
      · exact fun e => n2 x h1 e
      · exact fun e => n5 l (.inr rfl) x (.inl h1) e.symm
      · exact fun e => hlk (by rw [← e, h1])
    have hxo : x ∈ t.lo ++ t.hi := by
      rw [hl, hk]
      rcases hx2 with h1 | h1 | h1 <;> simp [h1]
    simp only [step3, put_ne _ _ hxl]
    exact h.wait x hxo
  · have hn1 : ¬ (i ∈ lo' ∨ i ∈ hi' ∨ i = k) := fun hh => by
      rcases List.mem_append.1 ((hmem i).2 hh) with y | y
      · exact x1 y
      · exact x2 y
    have hik : i ≠ k := fun e => hn1 (.inr (.inr e))
    by_cases e : i = l
    · subst e
      simp only [step3, put_eq, put_ne _ _ hik]
    · simp only [step3, put_ne _ _ e, put_ne _ _ hik]
      refine h.done i hi (fun hx => ?_) (fun hx => ?_)
      · rw [hl] at hx
        rcases List.mem_append.1 hx with y | y
        · exact hn1 (.inl y)
        · exact e (by simpa using y)
      · rw [hk] at hx
        rcases List.mem_append.1 hx with y | y
        · exact hn1 (.inr (.inl y))
        · exact hik (by simpa using y)
end Go.Proofs.AL
