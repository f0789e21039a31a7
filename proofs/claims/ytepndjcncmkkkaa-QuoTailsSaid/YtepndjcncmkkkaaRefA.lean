/- The document's functions of layer 2 (tombolaref02), over digits of 16 bits: cut. -/
import Derived.Test.YtepndjcncmkkkaaNatLaw
namespace Go.Proofs.RN
open Go.RowKit
open Go.Proofs
open Go.Proofs.NP
open Go.Proofs.SL
set_option linter.unusedVariables false

/-- the number of 16-bit digits, and a number's digits -/
def U (xs : List Nat) : Nat := val 65536 xs
def D (n : Nat) : List Nat := digs 65536 n

theorem cut (H : Nat) (a : Option Addr) (cap : Nat) (xs : List Nat) (w : World) (hs : Sl H w a cap xs) (hd : Dig 65536 xs) (hlen : xs.length ≤ 1000000) :
    Calls Try.prog 55 #[.slice a xs.length cap] w fun e w' => e = .returned (.slice a (D (U xs)).length cap) ∧ w = w' := by
  have hdone := fun n h1 h2 h3 => trim_done 65536 (by decide) hd n h1 h2 h3
  have hle := hs.le
  have hmx : cap ≤ 9223372036854775807 := by have := hs.max; unfold maxLen at this; omega
  change ∀ n, _ → _ → _ → xs.take n = D (U xs) at hdone
  generalize D (U xs) = ds at hdone ⊢
  have HD := Lib.hid hdone
  clear hdone
  have fin : ∀ n : Nat, n ≤ xs.length → (∀ j, n ≤ j → xs[j]?.getD 0 = 0) → (n = 0 ∨ xs[n - 1]?.getD 0 ≠ 0) → Hid (n = ds.length) := by
    intro n hn hz h
    have e := HD.out n hn hz h
    rw [Hid, ← e]; simp; omega
  have FIN := Lib.hid fin
  clear fin
  go_enter Try.func55, Try.ntmps55
  go_wp2
  go_loop [3] (fun s => ∃ n : Nat, s = .int .i64 n ∧ n ≤ xs.length ∧ Hid (∀ j, n ≤ j → xs[j]?.getD 0 = 0)) (fun s => (intOf s).toNat)
  case atStart => exact ⟨xs.length, rfl, Nat.le_refl _, fun j hj => by simp [hj]⟩
  case round =>
    obtain ⟨n, rfl, hn, hz⟩ := hrel
    cases n with
    | zero =>
      have F := FIN.out 0 hn hz.out (.inl rfl)
      go_wp2
      go_ret
      exact ⟨by rw [← F.out]; rfl, rfl⟩
    | succ n =>
      rcases hs.at' with rfl | ⟨b, off, rfl, hlt, hc⟩
      · simp at hn
      have hc := hc n (by omega)
      have hg : xs[n]?.getD 0 = xs[n] := by simp [show n < xs.length by omega]
      by_cases hx : xs[n] = 0
      · rw [hx] at hc
        have hz' : Hid (∀ j, n ≤ j → xs[j]?.getD 0 = 0) := by
          intro j hj
          rcases Nat.eq_or_lt_of_le hj with rfl | h
          · rw [hg, hx]
          · exact hz.out j h
        clear hx hg
        go_wp2_with fail
        go_round
        case rel => exact ⟨n, by go_num, by omega, hz'⟩
        case measure => simp [intOf]
      · have F := FIN.out (n + 1) hn hz.out (.inr (by simpa [hg] using hx))
        have hx' : (((xs[n] : Nat) : Int) == 0) = false := by simpa using hx
        clear hx hg
        go_wp2
        go_ret
        exact ⟨by rw [← F.out]; rfl, rfl⟩
end Go.Proofs.RN
