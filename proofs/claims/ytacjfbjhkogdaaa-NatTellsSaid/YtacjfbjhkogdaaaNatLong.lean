/- The contract of tombolalaw02.Long: whether one of the slices has more than 24 limbs. -/
import Derived.Test.YtacjfbjhkogdaaaNatD
namespace Go.Proofs.NT
open Go.RowKit
open Go.Proofs
open Go.Proofs.NP
open Go.Proofs.SL
set_option linter.unusedVariables false

/-- are there more limbs than a statement goes over? -/
def tooLong (ls : List (Option Addr × Nat × Nat)) : Bool := ls.any fun l => decide (24 < l.2.1)

theorem long (g c : Nat) (ls : List (Option Addr × Nat × Nat)) (w : World) (hn : ls.length ≤ 1000) (hc : ∀ i (h : i < ls.length), w.cell? ⟨g, i, none⟩ = some (.slice ls[i].1 ls[i].2.1 ls[i].2.2)) :
    Calls Try.prog 12 #[.slice (some ⟨g, 0, none⟩) ls.length c] w fun e w' => e = .returned (.bool (tooLong ls)) ∧ w = w' := by
  obtain ⟨n, hnn⟩ : ∃ n, ls.length = n := ⟨_, rfl⟩
  rw [hnn] at hn ⊢
  have HN := Lib.hid hnn
  have HC := Lib.hid hc
  clear hnn hc
  go_enter Try.func12, Try.ntmps12
  go_wp2
  go_loop [3] (fun s => ∃ i : Nat, s = .int .i64 i ∧ i ≤ n ∧ Hid (∀ j (h : j < ls.length), j < i → ls[j].2.1 ≤ 24)) (fun s => n - (intOf s).toNat)
  case atStart => exact ⟨0, rfl, by omega, fun j _ hj => by omega⟩
  case round =>
    obtain ⟨i, rfl, hi, hz⟩ := hrel
    by_cases hlt : i < n
    · have hil : i < ls.length := by rw [HN.out]; exact hlt
      have hc := HC.out i hil
      obtain ⟨l, hl⟩ : ∃ l, ls[i] = l := ⟨_, rfl⟩
      have hmem : l ∈ ls := by rw [← hl]; exact List.getElem_mem hil
      rw [hl] at hc
      obtain ⟨la, ll, lc⟩ := l
      dsimp only at hc
      by_cases h24 : 24 < ll
      · have e : Hid (tooLong ls = true) := by
          rw [Hid, tooLong, List.any_eq_true]
          exact ⟨_, hmem, by simpa using h24⟩
        clear hl hmem hil
        go_wp2
        go_ret
        exact ⟨W.ret_bool e.out.symm, rfl⟩
      · have hz' : Hid (∀ j (h : j < ls.length), j < i + 1 → ls[j].2.1 ≤ 24) := by
          intro j h hj
          rcases Nat.lt_or_ge j i with h' | h'
          · exact hz.out j h h'
          · obtain rfl : j = i := by omega
            rw [hl]; show ll ≤ 24; omega
        clear hl hmem hil
        go_wp2
        go_round
        case rel => exact ⟨i + 1, by go_num, by omega, hz'⟩
        case measure => simp [intOf]; omega
    · obtain rfl : i = n := by omega
      have e : Hid (tooLong ls = false) := by
        rw [Hid, tooLong, List.any_eq_false]
        intro l hl
        obtain ⟨j, hj, rfl⟩ := List.getElem_of_mem hl
        have := hz.out j hj (by rw [← HN.out]; exact hj)
        simpa using this
      go_wp2
      go_ret
      exact ⟨W.ret_bool e.out.symm, rfl⟩
end Go.Proofs.NT
