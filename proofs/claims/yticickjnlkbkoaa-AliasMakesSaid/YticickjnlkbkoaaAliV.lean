/- The document's alias tables: why there is none; a table in memory; Pick, Draw. -/
import Derived.Test.YticickjnlkbkoaaAliY
import Derived.Test.YticickjnlkbkoaaAliU
namespace Go.Proofs.AL
open Go.RowKit
open Go.Proofs
open Go.Proofs.NP
open Go.Proofs.SL
open Go.Proofs.RA
open Go
set_option linter.unusedVariables false
set_option linter.unusedSimpArgs false
set_option maxRecDepth 20000
set_option maxHeartbeats 2000000 in
theorem rwrong (ws : List Int) (a : Option Addr) (c : Nat) (w : World) (hr : Ri w a ws) (hl : ws.length ≤ 9223372036854775807) (z : Int) (hz : z = whyW ws) :
    Calls Try.prog 39 #[.slice a ws.length c] w fun e w' => e = .returned (.int .i64 z) ∧ w = w' := by
  by_cases h0 : ws = []
  · obtain rfl : z = 4 := by rw [hz, whyW, if_pos h0]
    subst h0
    clear hz
    show Calls Try.prog 39 #[.slice a 0 c] w _
    go_enter Try.func39, Try.ntmps39
    go_wp2_with fail
    go_ret
    exact ⟨rfl, rfl⟩
  have hn0 : ((ws.length : Int) == 0) = false := by
    rw [beq_eq_false_iff_ne]
    intro h
    exact h0 (List.eq_nil_of_length_eq_zero (by omega))
  by_cases h1 : 64 < ws.length
  · obtain rfl : z = 5 := by rw [hz, whyW, if_neg h0, if_pos h1]
    clear hz
    go_enter Try.func39, Try.ntmps39
    go_wp2_with fail
    go_ret
    exact ⟨rfl, rfl⟩
  have h2 : ¬ ((64 : Int) < (ws.length : Int)) := by omega
  have HR := Lib.hid hr
  have HZ1 := Lib.hid (fun h : ws.all okW = false => show z = 1 by rw [hz, whyW, if_neg h0, if_neg h1, if_pos h])
  have HZ0 := Lib.hid (fun h : ws.all okW = true => show z = if up (wf ws) ws.length = 0 then 7 else 0 by rw [hz, why_sum h0 h1 h])
  clear hr hz
  go_enter Try.func39, Try.ntmps39
  go_wp2_with fail
  go_loopw [3, 4] (fun s3 s4 wr => ∃ i : Nat, s3 = .int .i64 (up (wf ws) i) ∧ s4 = .int .i64 (i : Int) ∧ i ≤ ws.length ∧ Hid ((ws.take i).all okW = true) ∧ w = wr) (fun _ v _ => ws.length - (intOf v).toNat)
  case atStart => exact ⟨0, rfl, rfl, by omega, Lib.hid (by simp), rfl⟩
  case round =>
    obtain ⟨i, rfl, rfl, hi, HB, rfl⟩ := hrel
    by_cases hlt : i < ws.length
    · have hlt2 : (i : Int) < (ws.length : Int) := by omega
      obtain ⟨bb, off, rfl, hbl, hc⟩ := HR.out.get hlt
      have hci := hc i hlt
      obtain ⟨x, hx⟩ : ∃ x, x = ws[i] := ⟨_, rfl⟩
      have HX := Lib.hid hx
      rw [← hx] at hci
      clear hc hx
      by_cases hx0 : x < 0
      · obtain rfl : z = 1 := HZ1.out (all_no hlt (by rw [← HX.out, okW]; simp; omega))
        clear HZ1 HZ0 HR
        go_wp2_with fail
        go_ret
        exact ⟨rfl, rfl⟩
      · by_cases hx1 : (1048576 : Int) < x
        · obtain rfl : z = 1 := HZ1.out (all_no hlt (by rw [← HX.out, okW]; simp; omega))
          clear HZ1 HZ0 HR
          go_wp2_with fail
          go_ret
          exact ⟨rfl, rfl⟩
        · have HA := Lib.hid (take_all hlt HB.out (by rw [← HX.out, okW]; simp; omega))
          have hb := up_take (Nat.le_of_lt hlt) HB.out i (Nat.le_refl _)
          have hb2 : 0 ≤ up (wf ws) i ∧ up (wf ws) i ≤ 67108864 := by omega
          have HU := Lib.hid (show up (wf ws) (i + 1) = up (wf ws) i + x by rw [up, wf_get ws i hlt, HX.out])
          clear hb HB HZ1 HZ0 HR
          generalize up (wf ws) i = u at *
          have huw : IntKind.i64.wrap (u + x) = u + x := by rw [IntKind.wrap_i64]; omega
          go_wp2_with fail
          go_roundw
          case rel => exact ⟨i + 1, by rw [HU.out], by go_num, by omega, HA, by trivial⟩
          case measure => simp [intOf]; omega
    · have hlt2 : ¬ ((i : Int) < (ws.length : Int)) := by omega
      have hB := HB.out
      rw [show i = ws.length by omega, List.take_length] at hB
      have hZ := HZ0.out hB
      rw [show i = ws.length by omega]
      clear HB HZ1 HZ0 HR hB
      generalize up (wf ws) ws.length = u at *
      by_cases hu : u = 0
      · subst hu
        obtain rfl : z = 7 := by rw [hZ, if_pos rfl]
        clear hZ
        go_wp2_with fail
        go_ret
        exact ⟨rfl, rfl⟩
      · obtain rfl : z = 0 := by rw [hZ, if_neg hu]
        have hu2 : (u == 0) = false := by rw [beq_eq_false_iff_ne]; exact hu
        clear hZ
        go_wp2_with fail
        go_ret
        exact ⟨rfl, rfl⟩
/-- the document's table in memory -/
structure Tr (W : World) (g gc cc go co n : Nat) (s : Int) (cu ot : Nat → Int) : Prop where
  tb : Bk W g #[.int .i64 s, .slice (some ⟨gc, 0, none⟩) n cc, .slice (some ⟨go, 0, none⟩) n co] 35
  lc : gc < W.heap.size
  lo : go < W.heap.size
  cs : ∀ i, i < n → W.cell? ⟨gc, i, none⟩ = some (.int .i64 (cu i))
  os : ∀ i, i < n → W.cell? ⟨go, i, none⟩ = some (.int .i64 (ot i))
theorem Tr.nx {W W' : World} {g gc cc go co n : Nat} {s : Int} {cu ot : Nat → Int} (h : Tr W g gc cc go co n s cu ot) (hk : Kp W W') : Tr W' g gc cc go co n s cu ot :=
  ⟨h.tb.nx hk, Nat.lt_of_lt_of_le h.lc hk.size, Nat.lt_of_lt_of_le h.lo hk.size, fun i hi => (Below.cell hk.below (p := ⟨gc, i, none⟩) h.lc).trans (h.cs i hi), fun i hi => (Below.cell hk.below (p := ⟨go, i, none⟩) h.lo).trans (h.os i hi)⟩
theorem Tr.kept {W W' : World} {g gc cc go co n : Nat} {s : Int} {cu ot : Nat → Int} {b : Nat} (h : Tr W g gc cc go co n s cu ot) (hg : W.grownBy W' (some b)) (h1 : g ≠ b) (h2 : gc ≠ b) (h3 : go ≠ b) : Tr W' g gc cc go co n s cu ot :=
  ⟨(hg.block _ h.tb.lt (by simp; exact h1)).trans h.tb, Nat.lt_of_lt_of_le h.lc hg.size, Nat.lt_of_lt_of_le h.lo hg.size, fun i hi => hg.cell (h.cs i hi) (by simp; exact h2), fun i hi => hg.cell (h.os i hi) (by simp; exact h3)⟩
variable {w : World} {g gc cc go co n : Nat} {s : Int} {cu ot : Nat → Int}
theorem rpick (i : Nat) (r : Int) (h : Tr w g gc cc go co n s cu ot) (hi : i < n) (hn : n ≤ 64) (p : Int) (hp : p = if r < cu i then (i : Int) else ot i) : Calls Try.prog 23 #[.pointer (some ⟨g, 0, none⟩), .int .i64 (i : Int), .int .i64 r] w fun e w' => e = .returned (.int .i64 p) ∧ w = w' := by
  have c1 := h.tb.c 1
  have c2 := h.tb.c 2
  have cx := h.cs i hi
  have cy := h.os i hi
  have hi2 : (i : Int) < (n : Int) := by omega
  have hi3 : (0 : Int) ≤ (i : Int) := by omega
  generalize cu i = ci at *
  generalize ot i = oi at *
  clear h
  by_cases hc : r < ci
  · obtain rfl : p = (i : Int) := by rw [hp, if_pos hc]
    clear hp
    go_enter Try.func23, Try.ntmps23
    go_wp2_with fail
    go_ret
    exact ⟨rfl, rfl⟩
  · obtain rfl : p = oi := by rw [hp, if_neg hc]
    clear hp
    go_enter Try.func23, Try.ntmps23
    go_wp2_with fail
    go_ret
    exact ⟨rfl, rfl⟩
end Go.Proofs.AL
