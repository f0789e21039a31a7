/- Alias tables: a []int64 that came in. -/
import Derived.Test.YticickjnlkbkoaaGreatAliH
import Derived.OpenShut
namespace Go.Proofs.AL
open Go.RowKit
open Go.Proofs
open Go.Proofs.SL
open Go.ChangeAt
open Go
set_option linter.unusedVariables false
set_option linter.unusedSimpArgs false
theorem Ri.of_row {w : World} {a : Option Addr} {len cap : Nat} {zs : List Int}
    (h : (a = none ∧ len = 0 ∧ cap = 0 ∧ zs = []) ∨ ∃ x, a = some x ∧ len ≤ cap ∧ cap ≤ maxLen ∧ zs.length = cap ∧ (∀ i, i < zs.length → w.cell? (x.add i) = some (.int .i64 (zs.getD i 0))) ∧ ∀ n ∈ zs, (Lit.int .i64 n).wf = true) :
    ∃ ws : List Int, ws.length = len ∧ len ≤ 9223372036854775807 ∧ Ri w a ws := by
  rcases h with ⟨rfl, rfl, rfl, rfl⟩ | ⟨x, rfl, hl, hm, hz, hc, hw⟩
  · exact ⟨[], rfl, by decide, ⟨.inl rfl⟩⟩
  · have hlen : (zs.take len).length = len := by simp; omega
    refine ⟨zs.take len, hlen, by simp only [maxLen] at hm; omega, ?_⟩
    by_cases h0 : len = 0
    · subst h0; exact ⟨.inl (by simp)⟩
    · refine ⟨.inr ?_⟩
      obtain ⟨b, off, spot⟩ := x
      have hc0 := hc 0 (by omega)
      have hspot : spot = none := by simpa [Addr.add] using World.cell?_spot hc0
      subst hspot
      refine ⟨b, off, rfl, ?_, ?_⟩
      · have := World.block_lt_of_cell? w _ hc0
        simpa [Addr.add] using this
      · intro i hi
        have hi' : i < len := by rw [hlen] at hi; exact hi
        have hci := hc i (by omega)
        have e : (⟨b, off, none⟩ : Addr).add i = ⟨b, off + i, none⟩ := by unfold Addr.add; split <;> simp_all
        rw [e] at hci
        rw [hci]
        simp [List.getElem_take, List.getD_eq_getElem?_getD, List.getElem?_eq_getElem (show i < zs.length by omega)]
/-- why a table can be made of them, or not -/
theorem why_len {ws : List Int} (h : 0 = whyW ws) : 1 ≤ ws.length ∧ ws.length ≤ 64 := by
  unfold whyW at h
  by_cases h0 : ws = []
  · rw [if_pos h0] at h; cases h
  rw [if_neg h0] at h
  by_cases h1 : 64 < ws.length
  · rw [if_pos h1] at h; cases h
  have : ws.length ≠ 0 := fun e => h0 (List.eq_nil_of_length_eq_zero e)
  omega
theorem sum_pos {ws : List Int} (h : 0 = whyW ws) : 1 ≤ up (wf ws) ws.length := by
  obtain ⟨h1, h2⟩ := why0 h
  obtain ⟨x, hx, hp⟩ := List.any_eq_true.1 h2
  obtain ⟨i, hi, rfl⟩ := List.getElem_of_mem hx
  have hp' : 0 < ws[i] := by simpa using hp
  have key : ∀ m, i < m → m ≤ ws.length → 1 ≤ up (wf ws) m := by
    intro m
    induction m with
    | zero => intro h; omega
    | succ m ih =>
      intro hm hm2
      have h3 := up_nonneg (w := wf ws) (fun j => (wf_ok h1 j).1) m
      have h4 := (wf_ok h1 m).1
      rw [up]
      by_cases e : i = m
      · subst e; rw [wf_get ws i hi]; omega
      · have := ih (by omega) (by omega); omega
  exact key ws.length hi (Nat.le_refl _)
end Go.Proofs.AL
