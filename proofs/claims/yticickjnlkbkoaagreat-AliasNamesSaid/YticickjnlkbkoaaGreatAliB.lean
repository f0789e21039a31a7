/- Alias tables: why weights are none. -/
import Derived.Test.YticickjnlkbkoaaGreatAliA
import Derived.Test.YticickjnlkbkoaaGreatAliP
namespace Go.Proofs.AL
open Go.RowKit
open Go.Proofs
open Go.Proofs.NP
open Go.Proofs.SL
open Go.Proofs.RA
open Go
set_option linter.unusedVariables false
set_option linter.unusedSimpArgs false
set_option maxRecDepth 20000
/-- numbers that lie in memory -/
structure Ri (W : World) (a : Option Addr) (ws : List Int) : Prop where
  at' : ws = [] ∨ ∃ b off, a = some ⟨b, off, none⟩ ∧ b < W.heap.size ∧ ∀ i (h : i < ws.length), W.cell? ⟨b, off + i, none⟩ = some (.int .i64 ws[i])
theorem Ri.nx {W W' : World} {a : Option Addr} {ws : List Int} (h : Ri W a ws) (hk : Kp W W') : Ri W' a ws := by
  rcases h.at' with h0 | ⟨b, off, h1, h2, h3⟩
  · exact ⟨.inl h0⟩
  · exact ⟨.inr ⟨b, off, h1, Nat.lt_of_lt_of_le h2 hk.size, fun i hi => (Below.cell hk.below (p := ⟨b, off + i, none⟩) h2).trans (h3 i hi)⟩⟩
theorem Ri.get {W : World} {a : Option Addr} {ws : List Int} (h : Ri W a ws) {i : Nat} (hi : i < ws.length) : ∃ b off, a = some ⟨b, off, none⟩ ∧ b < W.heap.size ∧ ∀ i (h : i < ws.length), W.cell? ⟨b, off + i, none⟩ = some (.int .i64 ws[i]) := by
  rcases h.at' with h0 | h
  · rw [h0] at hi; simp at hi
  · exact h
/-- a weight? -/
def okW (x : Int) : Bool := decide (0 ≤ x ∧ x ≤ 1048576)
/-- why there is none -/
def whyW (ws : List Int) : Int := if ws = [] then 4 else if 64 < ws.length then 5 else if ws.all okW = false then 1 else if ws.any (fun x => decide (0 < x)) = false then 7 else 0
theorem take_all {ws : List Int} {i : Nat} (hi : i < ws.length) (h : (ws.take i).all okW = true) (hx : okW ws[i] = true) : (ws.take (i + 1)).all okW = true := by
  rw [List.take_succ_eq_append_getElem hi, List.all_append, h]; simp [hx]
theorem all_no {ws : List Int} {i : Nat} (hi : i < ws.length) (hx : okW ws[i] = false) : ws.all okW = false := by
  rw [Bool.eq_false_iff]
  intro h
  have := List.all_eq_true.1 h ws[i] (List.getElem_mem hi)
  rw [this] at hx; cases hx
theorem take_any {ws : List Int} {i : Nat} (hi : i < ws.length) : (ws.take (i + 1)).any (fun x => decide (0 < x)) = ((ws.take i).any (fun x => decide (0 < x)) || decide (0 < ws[i])) := by
  rw [List.take_succ_eq_append_getElem hi, List.any_append]; simp
set_option maxHeartbeats 1000000 in
theorem wrong1 (ws : List Int) (a : Option Addr) (c : Nat) (w : World) (hr : Ri w a ws) (hl : ws.length ≤ 9223372036854775807) (z : Int) (hz : z = whyW ws) :
    Calls Tryz.prog 22 #[.slice a ws.length c] w fun e w' => e = .returned (.int .i64 z) ∧ w = w' := by
  by_cases h0 : ws = []
  · obtain rfl : z = 4 := by rw [hz, whyW, if_pos h0]
    subst h0
    clear hz
    show Calls Tryz.prog 22 #[.slice a 0 c] w _
    go_enter Tryz.func22, Tryz.ntmps22
    go_wp2_with fail
    go_ret
    exact ⟨rfl, rfl⟩
  have hn0 : ((ws.length : Int) == 0) = false := by
    rw [beq_eq_false_iff_ne]
    intro h
    exact h0 (List.eq_nil_of_length_eq_zero (by omega))
  by_cases h1 : 64 < ws.length
  · obtain rfl : z = 5 := by rw [hz, whyW, if_neg h0, if_pos h1]
    clear hz
    go_enter Tryz.func22, Tryz.ntmps22
    go_wp2_with fail
    go_ret
    exact ⟨rfl, rfl⟩
  have h2 : ¬ ((64 : Int) < (ws.length : Int)) := by omega
  have HR := Lib.hid hr
  have HZ := Lib.hid (show z = if ws.all okW = false then 1 else if ws.any (fun x => decide (0 < x)) = false then 7 else 0 by rw [hz, whyW, if_neg h0, if_neg h1])
  clear hr hz
  go_enter Tryz.func22, Tryz.ntmps22
  go_wp2_with fail
  go_loopw [3, 16] (fun s3 s16 wr => ∃ (i : Nat) (b : Bool), s3 = .bool b ∧ s16 = .int .i64 (i : Int) ∧ i ≤ ws.length ∧ Hid (b = (ws.take i).any (fun x => decide (0 < x)) ∧ (ws.take i).all okW = true) ∧ w = wr) (fun _ v _ => ws.length - (intOf v).toNat)
  case atStart => exact ⟨0, false, rfl, rfl, by omega, Lib.hid ⟨by simp, by simp⟩, rfl⟩
  case round =>
    obtain ⟨i, b, rfl, rfl, hi, HB, rfl⟩ := hrel
    by_cases hlt : i < ws.length
    · have hlt2 : (i : Int) < (ws.length : Int) := by omega
      obtain ⟨bb, off, rfl, hbl, hc⟩ := HR.out.get hlt
      have hci := hc i hlt
      obtain ⟨x, hx⟩ : ∃ x, x = ws[i] := ⟨_, rfl⟩
      have HX := Lib.hid hx
      rw [← hx] at hci
      clear hc hx
      by_cases hx0 : x < 0
      · obtain rfl : z = 1 := by rw [HZ.out, if_pos (all_no hlt (by rw [← HX.out, okW]; simp; omega))]
        clear HZ HR
        go_wp2_with fail
        go_ret
        exact ⟨rfl, rfl⟩
      · by_cases hx1 : (1048576 : Int) < x
        · obtain rfl : z = 1 := by rw [HZ.out, if_pos (all_no hlt (by rw [← HX.out, okW]; simp; omega))]
          clear HZ HR
          go_wp2_with fail
          go_ret
          exact ⟨rfl, rfl⟩
        · have ha := take_all hlt HB.out.2 (by rw [← HX.out, okW]; simp; omega)
          have hb := take_any hlt
          rw [← HX.out, ← HB.out.1] at hb
          have HA := Lib.hid ha
          have HB2 := Lib.hid hb
          clear ha hb HB HZ HR
          cases b
          · by_cases hp : 0 < x
            all_goals
              go_wp2_with fail
              go_roundw
              case rel => exact ⟨i + 1, _, rfl, by go_num, by omega, Lib.hid ⟨by rw [HB2.out]; simp [hp]; try omega, HA.out⟩, by trivial⟩
              case measure => simp [intOf]; omega
          · go_wp2_with fail
            go_roundw
            case rel => exact ⟨i + 1, _, rfl, by go_num, by omega, Lib.hid ⟨by rw [HB2.out]; simp, HA.out⟩, by trivial⟩
            case measure => simp [intOf]; omega
    · have hlt2 : ¬ ((i : Int) < (ws.length : Int)) := by omega
      have hB := HB.out
      rw [show i = ws.length by omega, List.take_length] at hB
      have hZ := HZ.out
      rw [hB.2, if_neg (by decide), ← hB.1] at hZ
      clear HB HZ HR hB
      cases b
      · obtain rfl : z = 7 := by rw [hZ]; rfl
        clear hZ
        go_wp2_with fail
        go_ret
        exact ⟨rfl, rfl⟩
      · obtain rfl : z = 0 := by rw [hZ]; rfl
        clear hZ
        go_wp2_with fail
        go_ret
        exact ⟨rfl, rfl⟩
end Go.Proofs.AL
