/- Plain arithmetic: 16-bit digits gathered into 64-bit limbs. No program in sight. -/
import Derived.Test.YtepndjcncmkkkaaRefPure
namespace Go.Proofs.RN
open Go.Proofs.NP
open Go.Proofs.SL
set_option linter.unusedVariables false

def packF : Nat → List Nat → List Nat
  | 0, _ => []
  | f + 1, ds => if ds = [] then [] else val 65536 (ds.take 4) :: packF f (ds.drop 4)
/-- digits by fours -/
def pack (ds : List Nat) : List Nat := packF ds.length ds

theorem packF_more : ∀ f g (ds : List Nat), ds.length ≤ f → ds.length ≤ g → packF f ds = packF g ds := by
  intro f
  induction f with
  | zero =>
    intro g ds h1 h2
    obtain rfl : ds = [] := List.eq_nil_of_length_eq_zero (by omega)
    cases g <;> simp [packF]
  | succ f ih =>
    intro g ds h1 h2
    by_cases h0 : ds = []
    · subst h0; cases g <;> simp [packF]
    · have hp : 0 < ds.length := List.length_pos_iff.2 h0
      cases g with
      | zero => omega
      | succ g =>
        simp only [packF, if_neg h0]
        rw [ih g (ds.drop 4) (by simp; omega) (by simp; omega)]
theorem pack_nil : pack [] = [] := rfl
theorem pack_step {ds : List Nat} (h : ds ≠ []) : pack ds = val 65536 (ds.take 4) :: pack (ds.drop 4) := by
  have hp : 0 < ds.length := List.length_pos_iff.2 h
  obtain ⟨n, hn⟩ : ∃ n, ds.length = n + 1 := ⟨ds.length - 1, by omega⟩
  unfold pack
  rw [hn, packF, if_neg h, packF_more n (ds.drop 4).length (ds.drop 4) (by simp; omega) (by simp)]
theorem pack_length (ds : List Nat) : (pack ds).length ≤ ds.length := by
  have : ∀ f (ds : List Nat), (packF f ds).length ≤ f := by
    intro f
    induction f with
    | zero => intro ds; simp [packF]
    | succ f ih => intro ds; simp only [packF]; split <;> simp; exact ih _
  exact this _ _
theorem take4_lt {ds : List Nat} (h : Dig 65536 ds) : val 65536 (ds.take 4) < 18446744073709551616 := by
  have h1 := val_lt (b := 65536) (by decide) (h.take 4)
  have h2 : 65536 ^ (ds.take 4).length ≤ 65536 ^ 4 := Nat.pow_le_pow_right (by decide) (by simp; omega)
  have h3 : (65536 : Nat) ^ 4 = 18446744073709551616 := by decide
  omega
theorem val_cut4 (ds : List Nat) : val 65536 ds = val 65536 (ds.take 4) + 18446744073709551616 * val 65536 (ds.drop 4) := by
  match ds with
  | [] => rfl
  | [a] => simp [val]
  | [a, b] => simp [val]
  | [a, b, c] => simp [val]
  | a :: b :: c :: d :: r => simp only [List.take_succ_cons, List.take_zero, List.drop_succ_cons, List.drop_zero, val]; omega
theorem pack_all {ds : List Nat} (h : Dig 65536 ds) : Ws (pack ds) ∧ V (pack ds) = val 65536 ds := by
  have : ∀ n (ds : List Nat), ds.length ≤ n → Dig 65536 ds → Ws (pack ds) ∧ V (pack ds) = val 65536 ds := by
    intro n
    induction n with
    | zero =>
      intro ds h0 hd
      obtain rfl : ds = [] := List.eq_nil_of_length_eq_zero (by omega)
      exact ⟨Dig.nil _, rfl⟩
    | succ n ih =>
      intro ds h0 hd
      by_cases hn : ds = []
      · subst hn; exact ⟨Dig.nil _, rfl⟩
      · have hp : 0 < ds.length := List.length_pos_iff.2 hn
        have ⟨i1, i2⟩ := ih (ds.drop 4) (by simp; omega) (fun x hx => hd x (List.mem_of_mem_drop hx))
        rw [pack_step hn]
        refine ⟨fun x hx => ?_, ?_⟩
        · rcases List.mem_cons.1 hx with h' | h'
          · rw [h']; exact take4_lt hd
          · exact i1 x h'
        · rw [val_cut4 ds, ← i2]; rfl
  exact this _ ds (Nat.le_refl _) h
theorem val_pos_of_last {ds : List Nat} (hn : ds ≠ []) (hl : ds.getLast hn ≠ 0) : val 65536 ds ≠ 0 := by
  induction ds with
  | nil => exact absurd rfl hn
  | cons x ds ih =>
    by_cases h0 : ds = []
    · subst h0; simp [val] at hl ⊢; exact hl
    · have := ih h0 (by rwa [List.getLast_cons h0] at hl)
      simp only [val]; omega
theorem pack_last {ds : List Nat} (hn : ds ≠ []) (hl : ds.getLast hn ≠ 0) : ∀ h : pack ds ≠ [], (pack ds).getLast h ≠ 0 := by
  have : ∀ n (ds : List Nat), ds.length ≤ n → ∀ (hn : ds ≠ []), ds.getLast hn ≠ 0 → ∀ h : pack ds ≠ [], (pack ds).getLast h ≠ 0 := by
    intro n
    induction n with
    | zero => intro ds h0 hn; exact absurd (List.eq_nil_of_length_eq_zero (by omega)) hn
    | succ n ih =>
      intro ds h0 hn hl h
      by_cases h4 : ds.drop 4 = []
      · have ht : ds.take 4 = ds := List.take_of_length_le (by simpa using h4)
        have e : pack ds = [val 65536 ds] := by rw [pack_step hn, h4, ht]; rfl
        simp only [e, List.getLast_singleton]
        exact val_pos_of_last hn hl
      · have hl' : (ds.drop 4).getLast h4 ≠ 0 := by rw [List.getLast_drop]; exact hl
        have hne : pack (ds.drop 4) ≠ [] := by rw [pack_step h4]; simp
        have := ih (ds.drop 4) (by have := List.length_pos_iff.2 hn; simp; omega) h4 hl' hne
        have e := pack_step hn
        simp only [e, List.getLast_cons hne]
        exact this
  exact this _ ds (Nat.le_refl _) hn hl
/-- gathered digits of a number are its limbs -/
theorem pack_digs (n : Nat) : pack (digs 65536 n) = L n := by
  have hd : Dig 65536 (digs 65536 n) := dig_digs _ (by decide) n
  have ⟨h1, h2⟩ := pack_all hd
  rw [val_digs _ (by decide)] at h2
  have e : L (V (pack (digs 65536 n))) = pack (digs 65536 n) := by
    refine L_V h1 fun h => ?_
    by_cases h0 : digs 65536 n = []
    · rw [h0] at h; exact absurd rfl h
    · exact pack_last h0 (digs_last _ (by decide) n h0) h
  rw [h2] at e
  exact e.symm
end Go.Proofs.RN
