/- Tables by weights, added up (freq): New, Len, Sum, Share. -/
import Derived.Test.YticickjnlkbkoaaAliF
import Derived.Test.YticickjnlkbkoaaAliY
import Derived.Test.YticickjnlkbkoaaAliO
import Derived.Test.YticickjnlkbkoaaBelA
namespace Go.Proofs.AL
open Go.RowKit
open Go.Proofs
open Go.Proofs.NP
open Go.Proofs.SL
open Go.Proofs.RA
open Go.Proofs.BL
open Go
set_option linter.unusedVariables false
set_option linter.unusedSimpArgs false
set_option maxRecDepth 20000
/-- such a table in memory -/
structure Fq (W : World) (g gp cap : Nat) (ws : List Int) : Prop where
  bk : Bk W g #[.slice (some ⟨gp, 0, none⟩) ws.length cap] 91
  lt : gp < W.heap.size
  cs : ∀ i, i < ws.length → W.cell? ⟨gp, i, none⟩ = some (.int .i64 (up (wf ws) (i + 1)))
theorem Fq.nx {W W' : World} {g gp cap : Nat} {ws : List Int} (h : Fq W g gp cap ws) (hk : Kp W W') : Fq W' g gp cap ws :=
  ⟨h.bk.nx hk, Nat.lt_of_lt_of_le h.lt hk.size, fun i hi => (Below.cell hk.below (p := ⟨gp, i, none⟩) h.lt).trans (h.cs i hi)⟩
def FGives (w : World) (ws : List Int) (z : Int) (e : Ending) (w' : World) : Prop :=
  Kp w w' ∧ if z = 0 then ∃ g gp cap, e = .returned (.tuple #[.pointer (some ⟨g, 0, none⟩), .int .i64 0]) ∧ Fq w' g gp cap ws else e = .returned (.tuple #[.pointer none, .int .i64 z])
set_option maxHeartbeats 4000000 in
theorem fnew (ws : List Int) (a : Option Addr) (c : Nat) (w : World) (hr : Ri w a ws) (hl : ws.length ≤ 9223372036854775807) (z : Int) (hz : z = whyW ws) :
    Calls Try.prog 24 #[.slice a ws.length c] w (FGives w ws z) := by
  by_cases h0 : ws = []
  · obtain rfl : z = 4 := by rw [hz, whyW, if_pos h0]
    subst h0
    clear hz
    show Calls Try.prog 24 #[.slice a 0 c] w _
    go_enter Try.func24, Try.ntmps24
    go_wp2_with fail
    go_ret2
    exact ⟨Kp.refl _, by rw [if_neg (by decide)]; rfl⟩
  have hnn0 : 0 < ws.length := Nat.pos_of_ne_zero (fun h => h0 (List.eq_nil_of_length_eq_zero h))
  have hn0 : ((ws.length : Int) == 0) = false := by
    rw [beq_eq_false_iff_ne]; omega
  by_cases h1 : 64 < ws.length
  · obtain rfl : z = 5 := by rw [hz, whyW, if_neg h0, if_pos h1]
    clear hz
    go_enter Try.func24, Try.ntmps24
    go_wp2_with fail
    go_ret2
    exact ⟨Kp.refl _, by rw [if_neg (by decide)]; rfl⟩
  have h2 : ¬ ((64 : Int) < (ws.length : Int)) := by omega
  have HR := Lib.hid hr
  have HZ := Lib.hid (show z = if ws.all okW = false then 1 else if ws.any (fun x => decide (0 < x)) = false then 7 else 0 by rw [hz, whyW, if_neg h0, if_neg h1])
  obtain ⟨i0, hi0, hz0, hz1, hz2⟩ := info_parts Try.info2
  have B0 := Bk.new w #[.slice none 0 0] 91
  have K0 := Lib.hid ((Kp.refl w).al (.cells #[.slice none 0 0] 91))
  have HHZ := Lib.hid hz
  clear hr hz
  go_enter Try.func24, Try.ntmps24
  go_wp2_with fail
  generalize (w.alloc (.cells #[.slice none 0 0] 91)) = W0 at *
  have hsz := B0.lt
  have hgw : w.heap.size ≤ w.heap.size := Nat.le_refl _
  obtain ⟨g, hg⟩ : ∃ g, w.heap.size = g := ⟨_, rfl⟩
  rw [hg] at B0 hsz hgw
  simp only [hg]
  have HG := Lib.hid hg
  clear hg
  have B0 := Lib.hid B0
  go_loopw [5, 20] (fun s5 s20 wr => ∃ (i n cap : Nat) (pa : Option Addr) (xs : List Int), s20 = .int .i64 (i : Int) ∧ i ≤ ws.length ∧ s5 = .int .i64 (up (wf ws) i) ∧ n = i ∧ Hid (xs = ups (wf ws) i ∧ (ws.take i).all okW = true) ∧ Hid (Oi 2 (g + 1) wr pa cap xs) ∧ Hid (Bk wr g #[.slice pa n cap] 91) ∧ Hid (Kp w wr)) (fun _ v _ => ws.length - (intOf v).toNat)
  case atStart => exact ⟨0, 0, 0, none, [], rfl, by omega, rfl, rfl, Lib.hid ⟨rfl, rfl⟩, Lib.hid (Oi.nil _ _ _), B0, K0⟩
  case round =>
    obtain ⟨i, n, cap, pa, xs, rfl, hi, rfl, rfl, HX, HO, HB, K⟩ := hrel
    clear B0 K0
    by_cases hlt : n < ws.length
    · have hlt2 : (n : Int) < (ws.length : Int) := by omega
      obtain ⟨bb, off, rfl, hbl, hcs⟩ := (HR.out.nx K.out).get hlt
      have hci := hcs n hlt
      obtain ⟨x, hx⟩ : ∃ x, x = ws[n] := ⟨_, rfl⟩
      have HXI := Lib.hid hx
      rw [← hx] at hci
      clear hcs hx
      by_cases hx0 : x < 0
      · obtain rfl : z = 1 := by rw [HZ.out, if_pos (all_no hlt (by rw [← HXI.out, okW]; simp; omega))]
        clear HZ HHZ HX HO HB
        go_wp2_with fail
        go_ret2
        exact ⟨K.out, by rw [if_neg (by decide)]; rfl⟩
      by_cases hx1 : (1048576 : Int) < x
      · obtain rfl : z = 1 := by rw [HZ.out, if_pos (all_no hlt (by rw [← HXI.out, okW]; simp; omega))]
        clear HZ HHZ HX HO HB
        go_wp2_with fail
        go_ret2
        exact ⟨K.out, by rw [if_neg (by decide)]; rfl⟩
      have hA := Lib.hid (take_all hlt HX.out.2 (by rw [← HXI.out, okW]; simp; omega))
      have hub : 0 ≤ up (wf ws) n ∧ up (wf ws) n ≤ 67108864 := by
        have := up_take (Nat.le_of_lt hlt) HX.out.2 n (Nat.le_refl _)
        omega
      have HU := Lib.hid (ups_succ (wf ws) n)
      have HUU := Lib.hid (show up (wf ws) (n + 1) = up (wf ws) n + x by rw [up, wf_get ws n hlt, HXI.out])
      have hxw : wf ws n = x := by rw [wf_get ws n hlt, HXI.out]
      rw [hxw] at HU
      have hxl : xs.length = n := by rw [HX.out.1, ups_len]
      generalize up (wf ws) n = u at *
      have huw : IntKind.i64.wrap (u + x) = u + x := by rw [IntKind.wrap_i64]; omega
      obtain ⟨y, hy⟩ : ∃ y : Int, u + x = y := ⟨_, rfl⟩
      rw [hy] at huw HU HUU
      have c0 := HB.out.c 0
      have f0 := HB.out.f 0
      clear hxw
      go_wp2_with (at_builtin; refine wpList_append_int (B := g + 1) rfl _ _ 22 rfl 2 i0 Try.underlying22 hi0 hz0 hz1 hz2 pa n cap xs rfl (HO.out.nx ((Kp.refl _).al _)) hxl.symm ⟨wr.heap.size, 0, none⟩ 1 y rfl ((Bk.new wr #[.int .i64 y] 2).c 0) (by omega) (by have := HB.out.lt; simp; omega) ?_)
      intro g1 k1 W1 H
      have BA := HB.out.nx ((Kp.refl wr).al (.cells #[.int .i64 y] 2))
      have B1 : Bk W1 g #[.slice pa n cap] 91 := (H.out.2.1.block g BA.lt (fun e => by have := (HO.out.blk_ge g e.symm).1; omega)).trans BA
      have K1 : Kp w W1 := Kp.grown (K.out.al (.cells #[.int .i64 y] 2)) H.out.2.1 (fun k e => by have := (HO.out.blk_ge k e).1; have := HG.out; omega)
      have O2 := Lib.hid (H.out.1.kept (grown_set W1 g 0 (.slice (some ⟨g1, 0, none⟩) (n + 1) k1)) (fun q e h => by
        have h1 := (H.out.1.blk_ge q (by rw [e]; rfl)).1
        cases h; omega))
      have B2 := Lib.hid (show Bk (W1.setCell ⟨g, 0, none⟩ (.slice (some ⟨g1, 0, none⟩) (n + 1) k1)) g #[.slice (some ⟨g1, 0, none⟩) (n + 1) k1] 91 from B1.set 0 _)
      have K2 := Lib.hid (K1.setCell (p := ⟨g, 0, none⟩) (by have := HG.out; simp; omega) (.slice (some ⟨g1, 0, none⟩) (n + 1) k1))
      have f1 := B1.f 0
      have d1 := B1.c 0
      clear BA B1 K1 HO HB K c0 f0 H
      go_wp2_with fail
      go_roundw
      case rel => exact ⟨n + 1, n + 1, k1, some ⟨g1, 0, none⟩, xs ++ [y], by go_num, by omega, by rw [HUU.out], rfl, Lib.hid ⟨by rw [HU.out, ← HX.out.1], hA.out⟩, O2, B2, K2⟩
      case measure => simp [intOf]; omega
    · have hlt2 : ¬ ((n : Int) < (ws.length : Int)) := by omega
      have hnl : n = ws.length := by omega
      have hxs := HX.out.1
      have hall := HX.out.2
      rw [hnl, List.take_length] at hall
      rw [hnl] at hxs
      have hzz := why_sum h0 h1 hall
      rw [← HHZ.out] at hzz
      have hxne : xs ≠ [] := fun e => by
        have h9 := ups_len (wf ws) ws.length
        rw [← hxs, e] at h9
        simp at h9; omega
      obtain ⟨gp, hpa, hg1, hg2⟩ := HO.out.some_of hxne
      subst hpa
      have FQ := Lib.hid (show Fq wr g gp cap ws from ⟨by rw [← hnl]; exact HB.out, hg2, fun i hi => by
        have h9 : i < xs.length := by rw [hxs, ups_len]; exact hi
        rw [HO.out.cell i h9]
        simp only [hxs, ups_get]⟩)
      clear HX HO HB HZ HHZ hxs hall hxne
      rw [hnl]
      generalize up (wf ws) ws.length = u at *
      by_cases hu : u = 0
      · have hu2 : (u == 0) = true := by rw [hu]; rfl
        obtain rfl : z = 7 := by rw [hzz, if_pos hu]
        clear hzz hu
        go_wp2_with fail
        go_ret2
        exact ⟨K.out, by rw [if_neg (by decide)]; rfl⟩
      · have hu2 : (u == 0) = false := by rw [beq_eq_false_iff_ne]; exact hu
        obtain rfl : z = 0 := by rw [hzz, if_neg hu]
        clear hzz hu
        go_wp2_with fail
        go_ret2
        exact ⟨K.out, by rw [if_pos rfl]; exact ⟨_, _, _, rfl, FQ.out⟩⟩
variable {w : World} {g gp cap : Nat} {ws : List Int}
theorem flen (h : Fq w g gp cap ws) : Calls Try.prog 47 #[.pointer (some ⟨g, 0, none⟩)] w fun e w' => e = .returned (.int .i64 (ws.length : Int)) ∧ w = w' := by
  have c0 := h.bk.c 0
  clear h
  go_enter Try.func47, Try.ntmps47
  go_wp2_with fail
  go_ret
  exact ⟨rfl, rfl⟩
theorem fsum (h : Fq w g gp cap ws) (hn : 1 ≤ ws.length ∧ ws.length ≤ 64) (S : Int) (hS : up (wf ws) ws.length = S) : Calls Try.prog 48 #[.pointer (some ⟨g, 0, none⟩)] w fun e w' => e = .returned (.int .i64 S) ∧ w = w' := by
  have HL := Lib.hid (flen h)
  have c0 := h.bk.c 0
  obtain ⟨m, hm⟩ : ∃ m, ws.length = m + 1 := ⟨ws.length - 1, by omega⟩
  have cx := h.cs m (by omega)
  rw [hm] at hS c0 HL hn
  rw [hS] at cx
  have hl0 : (((m + 1 : Nat) : Int) == 0) = false := by rw [beq_eq_false_iff_ne]; omega
  have h1 : ((m + 1 : Nat) : Int) - 1 = (m : Int) := by omega
  have h2 : (m : Int) < ((m + 1 : Nat) : Int) := by omega
  clear h hS hm
  generalize hq : ((m + 1 : Nat) : Int) = q at *
  have hq2 := Lib.hid hq
  clear hq
  go_enter Try.func48, Try.ntmps48
  go_wp2_with fail
  refine HL.out.mono ?_; rintro e w' ⟨rfl, rfl⟩
  go_wp2_with fail
  go_ret
  exact ⟨rfl, rfl⟩
set_option maxHeartbeats 4000000 in
theorem fshare (S i x : Nat) {us vs : List Nat} (h : Fq w g gp cap ws) (hn : 1 ≤ ws.length ∧ ws.length ≤ 64) (hi : i < ws.length) (hall : ws.all okW = true) (hS : up (wf ws) ws.length = S) (hS1 : 1 ≤ S ∧ S ≤ 67108864) (hx : wf ws i = x)
    (hu : us = L (x / Nat.gcd x S)) (hv : vs = L (S / Nat.gcd x S)) :
    Calls Try.prog 25 #[.pointer (some ⟨g, 0, none⟩), .int .i64 (i : Int)] w (GivesRat w us vs) := by
  have hxb := (wf_ok hall i)
  rw [hx] at hxb
  have HO := Lib.hid (fun W => rover (us := us) (vs := vs) x S W (by omega) (by omega) (by omega) hu hv)
  have R0 := Lib.hid (Rs.new w #[.bool false, .slice none 0 0, .slice none 0 0] 42)
  have HF := Lib.hid (h.nx ((Kp.refl w).al (.cells #[.bool false, .slice none 0 0, .slice none 0 0] 42)))
  have HS := Lib.hid hS
  have hub := up_bd hall i (by omega)
  have hue : up (wf ws) (i + 1) = up (wf ws) i + (x : Int) := by rw [up, hx]
  have hi2 : (i : Int) < (ws.length : Int) := by omega
  have hi3 : ¬ ((i : Int) < 0) := by omega
  have hi4 : ¬ ((ws.length : Int) ≤ (i : Int)) := by omega
  have hl0 : ((ws.length : Int) == 0) = false := by rw [beq_eq_false_iff_ne]; omega
  have HUE := Lib.hid hue
  have HU0 := Lib.hid (fun (h0 : i = 0) => show up (wf ws) i = 0 by rw [h0]; rfl)
  clear h hall hS hx hu hv hue
  go_enter Try.func25, Try.ntmps25
  go_wp2_with fail
  generalize (w.alloc (.cells #[.bool false, .slice none 0 0, .slice none 0 0] 42)) = W0 at *
  refine (flen HF.out).mono ?_; rintro e w' ⟨rfl, rfl⟩
  go_wp2_with fail
  refine (flen HF.out).mono ?_; rintro e w' ⟨rfl, rfl⟩
  have c0 := HF.out.bk.c 0
  have cx := HF.out.cs i hi
  rw [HUE.out] at cx
  obtain ⟨z, hz⟩ : ∃ z, z = up (wf ws) i + (x : Int) := ⟨_, rfl⟩
  rw [← hz] at cx
  have hzx : z - up (wf ws) i = (x : Int) := by omega
  have hiw : IntKind.i64.wrap (x : Int) = (x : Int) := by rw [IntKind.wrap_i64]; omega
  have HSM := Lib.hid (fsum HF.out hn (S : Int) HS.out)
  have hi5 : (0 : Int) ≤ (i : Int) := by omega
  by_cases hi0 : i = 0
  · have hz2 : z = (x : Int) := by have := HU0.out hi0; omega
    have hi6 : ¬ ((0 : Int) < (i : Int)) := by omega
    rw [hz2] at cx
    clear hz hzx hz2 HUE HU0 hi0
    go_wp2_with fail
    refine HSM.out.mono ?_; rintro e w' ⟨rfl, rfl⟩
    go_wp2_with fail
    refine (HO.out _).mono ?_; rintro e W3 ⟨p5, d5, p6, d6, rfl, ho5, ho6, hb⟩
    have H3 := Lib.hid (R0.out.nx hb)
    have HO5 := Lib.hid (ho5.mono R0.out.sz)
    have HO6 := Lib.hid (ho6.mono R0.out.sz)
    have f0 := H3.out.rb.f 0
    have f1 := H3.out.rb.f 1
    have f2 := H3.out.rb.f 2
    have r0 := H3.out.rb.c 0
    have r1 := H3.out.rb.c 1
    have r2 := H3.out.rb.c 2
    clear HSM HO HF R0 c0 cx ho5 ho6 hb
    go_wp2_with fail
    have RB := H3.out.rb.put3 (.bool false) (.slice p5 us.length d5) (.slice p6 vs.length d6)
    unfold RA.put3 at RB
    have z0 := RB.c 0
    have z1 := RB.c 1
    have z2 := RB.c 2
    refine bodyPost_ret (v := .tuple #[.agg #[.bool false, .slice p5 us.length d5, .slice p6 vs.length d6], .int .i64 0]) (by simp [results, Try.results25, go_sem, z0, z1, z2]) rfl ?_
    exact ⟨_, _, _, _, rfl, (HO5.out.put3 (by omega) _ _ _).mono (by omega), (HO6.out.put3 (by omega) _ _ _).mono (by omega), Kp.put3 H3.out.kw (by omega) _ _ _⟩
  · obtain ⟨j, hj⟩ : ∃ j, i = j + 1 := ⟨i - 1, by omega⟩
    have hi6 : (0 : Int) < (i : Int) := by omega
    have cy := HF.out.cs j (by omega)
    rw [← hj] at cy
    generalize up (wf ws) i = u at *
    have hj1 : (i : Int) - 1 = (j : Int) := by omega
    have hj2 : (j : Int) < (ws.length : Int) := by omega
    clear hz HUE HU0 hi0 hj
    go_wp2_with fail
    refine HSM.out.mono ?_; rintro e w' ⟨rfl, rfl⟩
    go_wp2_with fail
    refine (HO.out _).mono ?_; rintro e W3 ⟨p5, d5, p6, d6, rfl, ho5, ho6, hb⟩
    have H3 := Lib.hid (R0.out.nx hb)
    have HO5 := Lib.hid (ho5.mono R0.out.sz)
    have HO6 := Lib.hid (ho6.mono R0.out.sz)
    have f0 := H3.out.rb.f 0
    have f1 := H3.out.rb.f 1
    have f2 := H3.out.rb.f 2
    have r0 := H3.out.rb.c 0
    have r1 := H3.out.rb.c 1
    have r2 := H3.out.rb.c 2
    clear HSM HO HF R0 c0 cx ho5 ho6 hb
    go_wp2_with fail
    have RB := H3.out.rb.put3 (.bool false) (.slice p5 us.length d5) (.slice p6 vs.length d6)
    unfold RA.put3 at RB
    have z0 := RB.c 0
    have z1 := RB.c 1
    have z2 := RB.c 2
    refine bodyPost_ret (v := .tuple #[.agg #[.bool false, .slice p5 us.length d5, .slice p6 vs.length d6], .int .i64 0]) (by simp [results, Try.results25, go_sem, z0, z1, z2]) rfl ?_
    exact ⟨_, _, _, _, rfl, (HO5.out.put3 (by omega) _ _ _).mono (by omega), (HO6.out.put3 (by omega) _ _ _).mono (by omega), Kp.put3 H3.out.kw (by omega) _ _ _⟩
end Go.Proofs.AL
