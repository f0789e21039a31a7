/- Alias tables: plain: the sums so far of a list of weights. -/
import Derived.Test.YticickjnlkbkoaaAliI
namespace Go.Proofs.AL
open Go.RowKit
open Go.Proofs
open Go
set_option linter.unusedVariables false
set_option linter.unusedSimpArgs false
/-- the sums so far -/
def ups (w : Nat → Int) (n : Nat) : List Int := (List.range n).map fun i => up w (i + 1)
theorem ups_len (w : Nat → Int) (n : Nat) : (ups w n).length = n := by simp [ups]
theorem ups_succ (w : Nat → Int) (n : Nat) : ups w (n + 1) = ups w n ++ [up w n + w n] := by simp [ups, List.range_succ, up]
theorem ups_get (w : Nat → Int) (n i : Nat) (h : i < (ups w n).length) : (ups w n)[i] = up w (i + 1) := by simp [ups]
theorem sum_zero {ws : List Int} (h1 : ws.all okW = true) (h2 : ws.any (fun x => decide (0 < x)) = false) : ∀ m, up (wf ws) m = 0
  | 0 => rfl
  | m + 1 => by
    rw [up, sum_zero h1 h2 m]
    by_cases hm : m < ws.length
    · have h3 := List.all_eq_true.1 h1 ws[m] (List.getElem_mem hm)
      rw [List.any_eq_false] at h2
      have h4 := h2 ws[m] (List.getElem_mem hm)
      rw [wf_get ws m hm]
      simp only [okW, decide_eq_true_eq] at h3 h4
      omega
    · simp [wf, hm]
theorem up_take {ws : List Int} {n : Nat} (hn : n ≤ ws.length) (h : (ws.take n).all okW = true) : ∀ j, j ≤ n → 0 ≤ up (wf ws) j ∧ up (wf ws) j ≤ j * 1048576
  | 0, _ => ⟨Int.le_refl _, by simp [up]⟩
  | j + 1, hj => by
    have h3 := up_take hn h j (by omega)
    have hm : ws[j]'(by omega) ∈ ws.take n := by
      have h5 : (ws.take n)[j]'(by simp; omega) = ws[j]'(by omega) := List.getElem_take
      rw [← h5]; exact List.getElem_mem _
    have h4 := List.all_eq_true.1 h _ hm
    simp only [okW, decide_eq_true_eq] at h4
    rw [up, wf_get ws j (by omega)]
    omega
/-- why there is none, once the length will do and each weight does -/
theorem why_sum {ws : List Int} (h0 : ws ≠ []) (h1 : ¬ 64 < ws.length) (h : ws.all okW = true) : whyW ws = if up (wf ws) ws.length = 0 then 7 else 0 := by
  have hz : whyW ws = if ws.any (fun x => decide (0 < x)) = false then 7 else 0 := by rw [whyW, if_neg h0, if_neg h1, h, if_neg (by decide)]
  cases h2 : ws.any (fun x => decide (0 < x))
  · rw [hz, h2, if_pos rfl, if_pos (sum_zero h h2 _)]
  · have h3 : 0 = whyW ws := by rw [hz, h2]; rfl
    have := sum_pos h3
    rw [← h3, if_neg (by omega)]
end Go.Proofs.AL
