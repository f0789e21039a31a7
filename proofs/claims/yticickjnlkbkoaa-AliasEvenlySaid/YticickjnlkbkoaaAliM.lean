/- Alias tables: plain: over all columns each place comes by its weight times the number of columns. -/
import Derived.Test.YticickjnlkbkoaaAliL
namespace Go.Proofs.AL
open Go.RowKit
open Go.Proofs
open Go
set_option linter.unusedVariables false
set_option linter.unusedSimpArgs false
theorem giv_zero {s : Int} {cu ot : Nat → Int} {i : Nat} : ∀ {n : Nat}, (∀ k, k < n → cu k = s) → giv s cu ot i n = 0
  | 0, _ => rfl
  | n + 1, h => by
    rw [giv, giv_zero (fun k hk => h k (by omega)), h n (by omega)]
    split <;> omega
theorem st2_ht (n : Nat) (s : Int) (w : Nat → Int) : ∀ m i : Nat, i < m → (st2 n s w m).ht i = n * w i ∧ (i ∈ (st2 n s w m).lo ∨ i ∈ (st2 n s w m).hi)
  | 0, i, h => by omega
  | m + 1, i, h => by
    simp only [st2, step2]
    by_cases e : i = m
    · subst e
      rw [put_eq]
      refine ⟨rfl, ?_⟩
      by_cases hc : (n : Int) * w i < s
      · left; rw [if_pos hc]; simp
      · right; rw [if_neg hc]; simp
    · obtain ⟨h1, h2⟩ := st2_ht n s w m i (by omega)
      rw [put_ne _ _ e]
      refine ⟨h1, ?_⟩
      by_cases hc : (n : Int) * w m < s
      · simp only [if_pos hc, List.mem_append]
        rcases h2 with h2 | h2
        · exact .inl (.inl h2)
        · exact .inr h2
      · simp only [if_neg hc, List.mem_append]
        rcases h2 with h2 | h2
        · exact .inl h2
        · exact .inr (.inl h2)
theorem st2_hs (n : Nat) (s : Int) (w : Nat → Int) : ∀ m : Nat, hs (st2 n s w m).ht (st2 n s w m).lo + hs (st2 n s w m).ht (st2 n s w m).hi = n * up w m
  | 0 => by simp [st2, st0, hs, up]
  | m + 1 => by
    have ih := st2_hs n s w m
    obtain ⟨b1, b2, -⟩ := st2_lt n s w m
    have e1 : hs (put (st2 n s w m).ht m (n * w m)) (st2 n s w m).lo = hs (st2 n s w m).ht (st2 n s w m).lo := hs_congr (fun x hx => put_ne _ _ (by have := b1 x hx; omega))
    have e2 : hs (put (st2 n s w m).ht m (n * w m)) (st2 n s w m).hi = hs (st2 n s w m).ht (st2 n s w m).hi := hs_congr (fun x hx => put_ne _ _ (by have := b2 x hx; omega))
    have e3 : (n : Int) * up w (m + 1) = n * up w m + n * w m := by rw [up, Int.mul_add]
    simp only [st2, step2]
    rw [e3]
    by_cases hc : (n : Int) * w m < s
    · rw [if_pos hc, if_pos hc, hs_app, e1, e2]
      simp only [hs, put_eq]; omega
    · rw [if_neg hc, if_neg hc, hs_app, e1, e2]
      simp only [hs, put_eq]; omega
/-- over all columns -/
theorem table_cols {n : Nat} {w : Nat → Int} (hn : 1 ≤ n) (h0 : ∀ i, 0 ≤ (n : Int) * w i) (h1 : ∀ i, (n : Int) * w i ≤ 134217728) (i : Nat) (hi : i < n) :
    (table n w).cu i + giv (up w n) (table n w).cu (table n w).ot i n = n * w i := by
  obtain ⟨hP, hO⟩ := table_pl hn h0 h1
  have hO0 := (Ok.start (s := up w n) h0 h1 n (Nat.le_refl _)).1
  obtain ⟨-, -, hlen⟩ := st2_lt n (up w n) w n
  have hC0 : Cv n (up w n) w (st2 n (up w n) w n) := by
    refine ⟨fun j hj => ?_, fun x hx => ?_, fun j hj x1 x2 => ?_⟩
    · rw [(st2_ht n _ w n j hj).1, giv_zero (fun k hk => (st2_at n _ w n k hk).1), Int.add_zero]
    · exact (st2_at n _ w n x (hO0.lt x hx)).1
    · rcases (st2_ht n (up w n) w n j hj).2 with h | h
      · exact absurd h x1
      · exact absurd h x2
  have hS0 : Sm (up w n) (st2 n (up w n) w n) := by
    unfold Sm
    rw [st2_hs, hlen]
  obtain ⟨hC, hS, hE⟩ := col_run (n + 1) _ (by omega) hO0 hC0 hS0
  have eT : run3 (up w n) (n + 1) (st2 n (up w n) w n) = table n w := rfl
  rw [eT] at hC hS hE
  have key : (table n w).cu i = (table n w).ht i := by
    by_cases hl : i ∈ (table n w).lo
    · exfalso
      rcases hE with h | h
      · rw [h] at hl; cases hl
      · unfold Sm at hS
        rw [h] at hS
        simp only [hs, List.length_nil, Nat.add_zero, Int.add_zero] at hS
        have := hs_lt (f := (table n w).ht) (s := up w n) (fun x hx => (hO.low x hx).2) (List.ne_nil_of_mem hl)
        omega
    · by_cases hh : i ∈ (table n w).hi
      · have hlo : (table n w).lo = [] := by
          rcases hE with h | h
          · exact h
          · rw [h] at hh; cases hh
        unfold Sm at hS
        rw [hlo] at hS
        simp only [hs, List.length_nil, Nat.zero_add, Int.zero_add] at hS
        have h2 := hs_all (fun x hx => (hO.high x hx).1) hS i hh
        rw [h2]
        exact hC.wait i (by simp [hh])
      · exact hC.done i hi hl hh
  rw [key]
  exact hC.eq i hi
end Go.Proofs.AL
