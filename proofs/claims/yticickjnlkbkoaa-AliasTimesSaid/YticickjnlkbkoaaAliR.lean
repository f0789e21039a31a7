/- Alias tables: plain: weights so many times as great: why there are none. -/
import Derived.Test.YticickjnlkbkoaaAliI
import Derived.Test.YticickjnlkbkoaaAliN
import Derived.Test.YticickjnlkbkoaaAliO
namespace Go.Proofs.AL
open Go.RowKit
open Go.Proofs
open Go
set_option linter.unusedVariables false
set_option linter.unusedSimpArgs false
def mulW (c : Int) (ws : List Int) : List Int := ws.map (c * ·)
theorem mulW_len (c : Int) (ws : List Int) : (mulW c ws).length = ws.length := by simp [mulW]
theorem wf_mul (c : Int) (ws : List Int) : wf (mulW c ws) = AL.sc c (wf ws) := by
  funext i
  by_cases h : i < ws.length
  · simp [wf, mulW, AL.sc, h]
  · simp [wf, mulW, AL.sc, h]
theorem pos_mul {c : Int} (hc : 1 ≤ c) (x : Int) : decide (0 < c * x) = decide (0 < x) := by
  have := lt_sc (show (0 : Int) < c by omega) 0 x
  rw [Int.mul_zero] at this
  exact decide_eq_decide.2 this
theorem why_mul {ws : List Int} {c : Int} (hc : 1 ≤ c) (hall : ws.all okW = true) : whyW (mulW c ws) = whyW ws ∨ (whyW ws = 0 ∧ whyW (mulW c ws) = 1) := by
  by_cases h0 : ws = []
  · subst h0; exact .inl rfl
  have h0' : mulW c ws ≠ [] := by simpa [mulW] using h0
  unfold whyW
  rw [mulW_len, if_neg h0, if_neg h0']
  by_cases h1 : 64 < ws.length
  · rw [if_pos h1, if_pos h1]; exact .inl rfl
  rw [if_neg h1, if_neg h1]
  simp only [hall, Bool.true_eq_false, if_false]
  have hany : (mulW c ws).any (fun x => decide (0 < x)) = ws.any (fun x => decide (0 < x)) := by
    rw [mulW, List.any_map]
    congr 1
    funext x
    exact pos_mul hc x
  rw [hany]
  cases h2 : ws.any (fun x => decide (0 < x))
  · left
    have h3 : (mulW c ws).all okW = true := by
      rw [List.all_eq_true]
      intro y hy
      obtain ⟨x, hx, rfl⟩ := List.mem_map.1 hy
      have h4 := List.all_eq_true.1 hall x hx
      have h5 : decide (0 < x) = false := by
        rw [List.any_eq_false] at h2
        exact Bool.eq_false_iff.2 (fun h => h2 x hx h)
      have h6 : x = 0 := by
        simp only [okW, decide_eq_true_eq] at h4
        simp only [decide_eq_false_iff_not] at h5
        omega
      rw [h6, Int.mul_zero]; decide
    simp only [h3, Bool.true_eq_false, if_false]
  · cases h3 : (mulW c ws).all okW
    · right; simp
    · left; simp
theorem mul_take {ws : List Int} {i : Nat} (c : Int) (hi : i < ws.length) : mulW c (ws.take i) ++ [c * ws[i]] = mulW c (ws.take (i + 1)) := by
  rw [List.take_succ_eq_append_getElem hi, mulW, mulW, List.map_append]; rfl
end Go.Proofs.AL
