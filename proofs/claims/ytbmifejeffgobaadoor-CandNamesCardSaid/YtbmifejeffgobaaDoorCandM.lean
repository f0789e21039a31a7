/- Lesser strings: the examples. -/
import Derived.Test.YtbmifejeffgobaaDoorCandL
import Derived.Test.YtbmifejeffgobaaDoorBitsI
import Derived.Laws.OwnMore
namespace Go.Proofs.CT
open Go.RowKit
open Go.Proofs
open Go.Proofs.BT
open Go
set_option linter.unusedVariables false
set_option linter.unusedSimpArgs false
def nine : ByteArray := ⟨#[49, 49, 48, 48, 48, 48, 48, 48, 49]⟩
theorem nine_len : (cands nine).length = 39 := by decide +kernel
theorem nine_at : (cands nine)[0]? = some ⟨#[49]⟩ ∧ (cands nine)[1]? = some ⟨#[49]⟩ ∧ (cands nine)[2]? = some ⟨#[48, 48, 48, 48, 49]⟩ ∧ (cands nine)[24]? = some ⟨#[49, 49, 48, 48, 48, 48, 48, 48]⟩ ∧ (cands nine)[25]? = some ⟨#[48, 48, 48, 48, 48, 48, 48, 48, 49]⟩ ∧ (cands nine)[26]? = some ⟨#[49, 48, 48, 48, 48, 48, 48, 48, 48]⟩ ∧ (cands nine)[36]? = some ⟨#[48, 49, 49, 49, 49, 49, 49, 49, 49]⟩ ∧ (cands nine)[37]? = some ⟨#[49, 48, 49, 49, 49, 49, 49, 49, 49]⟩ ∧ (cands nine)[38]? = some ⟨#[49, 49, 48, 48, 48, 48, 48, 48, 48]⟩ := by decide +kernel
theorem nine_cells {W : World} {a : Option Addr} {cap : Nat} (h : Reads W (.slice a 39 cap) (cands nine)) : ∃ b, a = some ⟨b, 0, none⟩ ∧ W.cell? ⟨b, 0, none⟩ = some (.string ⟨#[49]⟩) ∧ W.cell? ⟨b, 1, none⟩ = some (.string ⟨#[49]⟩) ∧ W.cell? ⟨b, 2, none⟩ = some (.string ⟨#[48, 48, 48, 48, 49]⟩) ∧ W.cell? ⟨b, 24, none⟩ = some (.string ⟨#[49, 49, 48, 48, 48, 48, 48, 48]⟩) ∧ W.cell? ⟨b, 25, none⟩ = some (.string ⟨#[48, 48, 48, 48, 48, 48, 48, 48, 49]⟩) ∧ W.cell? ⟨b, 26, none⟩ = some (.string ⟨#[49, 48, 48, 48, 48, 48, 48, 48, 48]⟩) ∧ W.cell? ⟨b, 36, none⟩ = some (.string ⟨#[48, 49, 49, 49, 49, 49, 49, 49, 49]⟩) ∧ W.cell? ⟨b, 37, none⟩ = some (.string ⟨#[49, 48, 49, 49, 49, 49, 49, 49, 49]⟩) ∧ W.cell? ⟨b, 38, none⟩ = some (.string ⟨#[49, 49, 48, 48, 48, 48, 48, 48, 48]⟩) := by
  have get : ∀ i, i < 39 → ∃ b x, a = some ⟨b, 0, none⟩ ∧ W.cell? ⟨b, i, none⟩ = some (.string x) ∧ (cands nine)[i]? = some x := fun i hi => by
    obtain ⟨x, ⟨b, h1, h2⟩, _, h3⟩ := h.get nine_len.symm hi
    exact ⟨b, x, h1, h2, h3⟩
  obtain ⟨b, _, rfl, _⟩ := get 0 (by decide)
  have get' : ∀ i x, i < 39 → (cands nine)[i]? = some x → W.cell? ⟨b, i, none⟩ = some (.string x) := fun i x hi hx => by
    obtain ⟨b', y, h1, h2, h3⟩ := get i hi
    cases h1
    rw [hx] at h3; cases h3; exact h2
  obtain ⟨n0, n1, n2, n24, n25, n26, n36, n37, n38⟩ := nine_at
  exact ⟨b, rfl, get' _ _ (by decide) n0, get' _ _ (by decide) n1, get' _ _ (by decide) n2, get' _ _ (by decide) n24, get' _ _ (by decide) n25, get' _ _ (by decide) n26, get' _ _ (by decide) n36, get' _ _ (by decide) n37, get' _ _ (by decide) n38⟩
theorem rep_get (b : UInt8) (n j : Nat) (h : j < (rep b n).size) : (rep b n)[j] = b := by
  have : (rep b n)[j] = (List.replicate n b).toArray[j]'(by simpa [rep_size] using h) := rfl
  rw [this]; simp
theorem rep_is (n : Nat) (hn : n ≤ 1024) : isB (rep 48 n) = true := by
  have : BT.bits (rep 48 n) = true := bits_of _ (fun j h => by rw [rep_get]; decide)
  rw [isB, this, rep_size]; simp [hn]
theorem many_no : cands (rep 48 1025) = [] := by
  have : isB (rep 48 1025) = false := by rw [isB, rep_size]; rfl
  rw [cands, this]; rfl
theorem many_three : 3 ≤ (cands (rep 48 1024)).length := by
  rw [cands, if_pos (rep_is 1024 (by omega))]
  have h1 : (rem cutB (rep 48 1024) 1 0 ((rep 48 1024).size + 1 - 1)).length = (rep 48 1024).size + 1 - 1 := rem_cut_len (by omega) _ _ (by omega)
  have h2 : (rep 48 1024).size = 1024 := rep_size _ _
  simp only [partJ, partN, List.length_append]
  omega
/-- five texts that are none -/
def badS : Nat → ByteArray
  | 0 => ⟨#[50]⟩
  | 1 => ⟨#[48, 49, 120]⟩
  | 2 => ⟨#[32]⟩
  | 3 => ⟨#[48, 32, 49]⟩
  | _ => rep 48 1025
theorem bad_none (i : Nat) : cands (badS i) = [] := by
  match i with
  | 0 => decide +kernel
  | 1 => decide +kernel
  | 2 => decide +kernel
  | 3 => decide +kernel
  | (i + 4) => exact many_no
theorem bad_size (i : Nat) : (badS i).size ≤ 1025 := by
  match i with
  | 0 => decide
  | 1 => decide
  | 2 => decide
  | 3 => decide
  | (i + 4) => rw [show badS (i + 4) = rep 48 1025 from rfl, rep_size]; omega
theorem bad_told (i : Nat) (w : World) (hw : wide4 w) : Calls Tryd.prog 12 #[.string (badS i), .int .i64 9] w (GivesS [] 0 w) :=
  told_gives (badS i) (by have := bad_size i; omega) [] 9 (by decide) (by decide) (by rw [bad_none]; decide) (by rw [bad_none]; rfl) 0 rfl 9 rfl w hw
theorem bad_count (i : Nat) (w : World) (hw : wide4 w) : Calls Tryd.prog 13 #[.string (badS i)] w fun e w' => e = .returned (.int .i64 0) ∧ Below w.heap.size w w' :=
  count_any (badS i) (by have := bad_size i; omega) (by rw [bad_none]; decide) w hw 0 (by rw [bad_none]; rfl)
theorem three_told (w : World) (hw : wide4 w) : Calls Tryd.prog 12 #[.string (rep 48 1024), .int .i64 3] w (GivesS ((cands (rep 48 1024)).take 3) 3 w) :=
  told_gives (rep 48 1024) (by rw [rep_size]; decide) _ 3 (by decide) (by decide) (by have := cands_nine (rep 48 1024); rw [rep_size] at this; omega) rfl 3 (by rw [List.length_take]; have := many_three; omega) 3 rfl w hw
theorem Tryd.info5 : (Tryd.prog.info? 5).map (fun i => (i.zero, i.size, i.bytes)) = some (some (.int .u8 0), 1, 1) := by kernel_rfl
end Go.Proofs.CT
