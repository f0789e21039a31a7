/- The document's alias tables: New, of weights that are some. -/
import Derived.Test.YticickjnlkbkoaaAliV
import Derived.Test.YticickjnlkbkoaaAliX
import Derived.Test.YticickjnlkbkoaaAliH
import Derived.Test.YticickjnlkbkoaaAliF
import Derived.Test.YticickjnlkbkoaaBelA
import Derived.Deep.RegionHeld3
import Derived.BigRegion
import Derived.Deep.RegionLaw
namespace Go.Proofs.AL
open Go.RowKit
open Go.Proofs
open Go.Proofs.NP
open Go.Proofs.SL
open Go.Proofs.RA
open Go.Proofs.BL
open Go
set_option linter.unusedVariables false
set_option linter.unusedSimpArgs false
set_option maxRecDepth 20000
set_option maxHeartbeats 8000000 in
theorem rnew (ws : List Int) (a : Option Addr) (c : Nat) (w : World) (hr : Ri w a ws) (hn : 1 ≤ ws.length ∧ ws.length ≤ 64) (hz : 0 = whyW ws) :
    Calls Try.prog 12 #[.slice a ws.length c] w fun e w' => ∃ g gc cc go co, e = .returned (.tuple #[.pointer (some ⟨g, 0, none⟩), .int .i64 0]) ∧ Tr w' g gc cc go co ws.length (up (wf ws) ws.length) (table ws.length (wf ws)).cu (table ws.length (wf ws)).ot ∧ (w.heap.size ≤ g ∧ w.heap.size ≤ gc ∧ w.heap.size ≤ go) ∧ Kp w w' := by
  have HW := Lib.hid (rwrong ws a c w hr (by omega) 0 hz)
  have HR := Lib.hid hr
  have HAll := Lib.hid (why0 hz).1
  obtain ⟨n, hnn⟩ : ∃ n, ws.length = n := ⟨_, rfl⟩
  rw [hnn] at hn HW ⊢
  have HN := Lib.hid hnn
  obtain ⟨i0, hi0, iz0, iz1, iz2⟩ := info_parts Try.info2
  obtain ⟨j0, hj0, jz0, jz1, jz2⟩ := info_parts Try.info3
  have B0 := Bk.new w #[.int .i64 0, .slice none 0 0, .slice none 0 0] 35
  have K0 := Lib.hid ((Kp.refl w).al (.cells #[.int .i64 0, .slice none 0 0, .slice none 0 0] 35))
  clear hr hz hnn
  go_enter Try.func12, Try.ntmps12
  go_wp2_with fail
  refine HW.out.mono ?_; rintro e w' ⟨rfl, rfl⟩
  clear HW
  go_wp2_with fail
  generalize (w.alloc (.cells #[.int .i64 0, .slice none 0 0, .slice none 0 0] 35)) = W0 at *
  have hgw : w.heap.size ≤ w.heap.size := Nat.le_refl _
  obtain ⟨g, hg⟩ : ∃ g, w.heap.size = g := ⟨_, rfl⟩
  have hgl := B0.lt
  rw [hg] at B0 hgl
  have hgw : w.heap.size ≤ g := Nat.le_of_eq hg
  simp only [hg]
  clear hg
  have HB0 := Lib.hid B0
  clear B0
  go_loopw [7] (fun s7 wr => ∃ i : Nat, s7 = .int .i64 (i : Int) ∧ i ≤ n ∧ Hid (Bk wr g #[.int .i64 (up (wf ws) i), .slice none 0 0, .slice none 0 0] 35) ∧ Hid (Kp w wr)) (fun v _ => n - (intOf v).toNat)
  case atStart => exact ⟨0, rfl, by omega, HB0, K0⟩
  case round =>
    clear HB0 K0
    obtain ⟨i, rfl, hi, HB, K⟩ := hrel
    by_cases hlt : i < n
    · have hlt2 : (i : Int) < (n : Int) := by omega
      have hlw : i < ws.length := by rw [HN.out]; exact hlt
      obtain ⟨bb, off, rfl, hbl, hc⟩ := (HR.out.nx K.out).get hlw
      have hci := hc i hlw
      rw [← wf_get ws i hlw] at hci
      have hb1 := up_bd HAll.out i (by omega)
      have hb2 := wf_ok HAll.out i
      have c0 := HB.out.c 0
      have f0 := HB.out.f 0
      have HU := Lib.hid (show up (wf ws) (i + 1) = up (wf ws) i + wf ws i from rfl)
      have HBS := Lib.hid (HB.out.set 0 (.int .i64 (up (wf ws) i + wf ws i)))
      have HKS := Lib.hid (K.out.setCell (p := ⟨g, 0, none⟩) hgw (.int .i64 (up (wf ws) i + wf ws i)))
      generalize up (wf ws) i = u at *
      generalize wf ws i = x at *
      have huw : IntKind.i64.wrap (u + x) = u + x := by rw [IntKind.wrap_i64]; omega
      clear hc
      go_wp2_with fail
      go_region
      go_wp2_with fail
      go_roundw
      case rel => exact ⟨i + 1, by go_num, by omega, by rw [HU.out]; exact Lib.hid (HBS.out.nx (Kp.refl _).dr1), Lib.hid (Kp.dr1 HKS.out)⟩
      case measure => simp [intOf]; omega
    · have hlt2 : ¬ ((i : Int) < (n : Int)) := by omega
      have hin : i = n := by omega
      subst hin
      obtain ⟨s, hs⟩ : ∃ s, s = up (wf ws) i := ⟨_, rfl⟩
      have hsb := up_bd HAll.out i (by omega)
      rw [← hs] at HB hsb
      have HS := Lib.hid hs
      have HF0 := Lib.hid (Fv.start (g + 1) wr)
      clear hs hlt hlt2 hi
      go_wp2_with fail
      go_loopw [8, 9, 10, 11] (fun s8 s9 s10 s11 wx => ∃ (k nl nh c0 c1 c2 c3 c4 : Nat) (a0 a1 a2 a3 a4 : Option Addr) (t : St), s8 = .slice a2 k c2 ∧ s9 = .slice a3 nl c3 ∧ s10 = .slice a4 nh c4 ∧ s11 = .int .i64 (k : Int) ∧ k ≤ i ∧ nl + nh = k ∧ Hid (t = st2 i s (wf ws) k ∧ nl = t.lo.length ∧ nh = t.hi.length) ∧ Hid (Fv (g + 1) wx (five ⟨a0, c0, rowL k t.cu⟩ ⟨a1, c1, rowL k t.ot⟩ ⟨a2, c2, rowL k t.ht⟩ ⟨a3, c3, nums t.lo⟩ ⟨a4, c4, nums t.hi⟩)) ∧ Hid (Bk wx g #[.int .i64 s, .slice a0 k c0, .slice a1 k c1] 35) ∧ Hid (Kp w wx)) (fun _ _ _ v _ => i - (intOf v).toNat)
      case atStart => exact ⟨0, 0, 0, 0, 0, 0, 0, 0, none, none, none, none, none, st0, rfl, rfl, rfl, rfl, by omega, rfl, Lib.hid ⟨rfl, rfl, rfl⟩, HF0, HB, K⟩
      case round =>
        clear HF0 HB K
        obtain ⟨k, nl, nh, c0, c1, c2, c3, c4, a0, a1, a2, a3, a4, t, rfl, rfl, rfl, rfl, hk, hlh, HT, HF, HB, K⟩ := hrel
        by_cases hlt : k < i
        · have hlt2 : (k : Int) < (i : Int) := by omega
          have hlw : k < ws.length := by rw [HN.out]; exact hlt
          obtain ⟨bb, off, rfl, hbl, hc⟩ := (HR.out.nx K.out).get hlw
          have hci := hc k hlw
          rw [← wf_get ws k hlw] at hci
          have hb2 := wf_ok HAll.out k
          obtain ⟨x, hx⟩ : ∃ x, x = wf ws k := ⟨_, rfl⟩
          rw [← hx] at hci hb2
          have HX := Lib.hid hx
          obtain ⟨y, hy⟩ : ∃ y : Int, y = (i : Int) * x := ⟨_, rfl⟩
          have hyb : 0 ≤ y ∧ y ≤ 67108864 := by
            have h1 : 0 ≤ (i : Int) * x := Int.mul_nonneg (by omega) hb2.1
            have h2 : (i : Int) * x ≤ 64 * 1048576 := Int.mul_le_mul (by omega) hb2.2 hb2.1 (by omega)
            omega
          have hy1 : (i : Int) * x = y := hy.symm
          have hy2 : IntKind.i64.wrap y = y := by rw [IntKind.wrap_i64]; omega
          have HY := Lib.hid hy
          clear hx hc hy
          have FA := HF.out.nx ((Kp.refl wr).al (.cells #[.int .i64 y] 2))
          have KA := K.out.al (.cells #[.int .i64 y] 2)
          have BA := HB.out.nx ((Kp.refl wr).al (.cells #[.int .i64 y] 2))
          have LA : g + 1 ≤ (wr.alloc (.cells #[.int .i64 y] 2)).heap.size := BA.lt
          go_wp2_with (at_builtin; refine wpList_append_int (B := g + 1) rfl _ _ 22 rfl 2 i0 Try.underlying22 hi0 iz0 iz1 iz2 a2 k c2 (rowL k t.ht) rfl (FA.own 2) (rowL_len _ _).symm ⟨wr.heap.size, 0, none⟩ 1 y rfl ((Bk.new wr #[.int .i64 y] 2).c 0) (by rw [rowL_len]; omega) LA ?_)
          intro g2 k2 W1 H
          have F1 := FA.app 2 H.out.1 H.out.2.1 (by rw [World.size_alloc]; exact H.out.2.2)
          rw [up5_2, rowL_snoc] at F1
          have B1 := FA.keep 2 H.out.2.1 (Nat.lt_succ_self g) BA
          have K1 := Lib.hid (FA.kp 2 H.out.2.1 (Nat.le_succ_of_le hgw) KA)
          clear HF HB K FA KA BA LA H hy1 hy2 hci
          have F1 := Lib.hid F1
          have B1 := Lib.hid B1
          go_wp2_with fail
          have HV := Lib.hid (fun (W' : World) (hk : Kp W1 W') => Bk.lits2 (B1.out.nx hk))
          have cs0 := (HV.out _ (Kp.refl _)).1
          have cs1 := (HV.out _ (Kp.refl _)).2
          have cs2 := (HV.out _ ((Kp.refl _).al (.cells #[.int .i64 s] 2)).dr1).2
          have cs3 := (HV.out _ ((Kp.refl _).al (.cells #[.int .i64 s] 2))).2
          apply wp_tab (Fa := fun w' g0 k0 d0 => Fv (g + 1) w' (five ⟨some ⟨g0, 0, none⟩, k0, rowL (k + 1) (put t.cu k s)⟩ ⟨a1, c1, rowL k t.ot⟩ ⟨some ⟨g2, 0, none⟩, k2, rowL (k + 1) (put t.ht k y)⟩ ⟨a3, c3, nums t.lo⟩ ⟨a4, c4, nums t.hi⟩) ∧ Bk w' g #[.int .i64 s, .slice (some ⟨g0, 0, none⟩) (k + 1) k0, .slice a1 k c1] 35 ∧ Kp w w')
          case h =>
            intro K KEY
            obtain ⟨d0, hd0⟩ : ∃ d : Nat, d = 0 := ⟨0, rfl⟩
            clear hd0
            have FB := Lib.hid (F1.out.nx (((Kp.refl W1).al (.cells #[.int .i64 s] 2)).dr1))
            have BB := Lib.hid (B1.out.nx (((Kp.refl W1).al (.cells #[.int .i64 s] 2)).dr1))
            have KB := Lib.hid (Kp.nx K1.out (((Kp.refl W1).al (.cells #[.int .i64 s] 2)).dr1))
            go_region_law ((refine step_append_int (B := g + 1) rfl _ _ 22 rfl 2 i0 Try.underlying22 hi0 iz0 iz1 iz2 a0 k c0 (rowL k t.cu) rfl (FB.out.own 0) (rowL_len _ _).symm ⟨W1.heap.size, 0, none⟩ 1 s rfl (((Bk.new W1 #[.int .i64 s] 2).nx (Kp.refl _).dr1).c 0) (by rw [rowL_len]; omega) BB.out.lt ?_; intro g0 k0 W2 H; have BD := FB.out.keep 0 H.out.2.1 (Nat.lt_succ_self g) BB.out; have f1 := BD.f 1; have d1 := BD.c 1))
            all_goals
              have F2 := FB.out.app 0 H.out.1 H.out.2.1 H.out.2.2
              rw [up5_0, rowL_snoc] at F2
              have K2 := FB.out.kp 0 H.out.2.1 (Nat.le_succ_of_le hgw) KB.out
              have FIN : Fv (g + 1) (W2.setCell ⟨g, 1, none⟩ (.slice (some ⟨g0, 0, none⟩) (k + 1) k0)) (five ⟨some ⟨g0, 0, none⟩, k0, rowL (k + 1) (put t.cu k s)⟩ ⟨a1, c1, rowL k t.ot⟩ ⟨some ⟨g2, 0, none⟩, k2, rowL (k + 1) (put t.ht k y)⟩ ⟨a3, c3, nums t.lo⟩ ⟨a4, c4, nums t.hi⟩) ∧ Bk (W2.setCell ⟨g, 1, none⟩ (.slice (some ⟨g0, 0, none⟩) (k + 1) k0)) g #[.int .i64 s, .slice (some ⟨g0, 0, none⟩) (k + 1) k0, .slice a1 k c1] 35 ∧ Kp w (W2.setCell ⟨g, 1, none⟩ (.slice (some ⟨g0, 0, none⟩) (k + 1) k0)) :=
                ⟨F2.far (grown_set W2 g 1 _) (Nat.lt_succ_self g), BD.set 1 _, K2.setCell (p := ⟨g, 1, none⟩) hgw _⟩
              try dsimp only [only]
              try go_simp
              exact KEY.out _ g0 k0 d0 FIN
          case rest =>
            intro W3 g0 k0 d0 HF
            clear B1 K1 F1 cs0 cs1 cs2 cs3 HV
            have FC := HF.1.nx ((Kp.refl W3).al (.cells #[.int .i64 (k : Int)] 3))
            have KC := HF.2.2.al (.cells #[.int .i64 (k : Int)] 3)
            have BC := HF.2.1.nx ((Kp.refl W3).al (.cells #[.int .i64 (k : Int)] 3))
            have LC : g + 1 ≤ (W3.alloc (.cells #[.int .i64 (k : Int)] 3)).heap.size := BC.lt
            have c2' := HF.2.1.c 2
            clear HF
            go_wp2_with (at_builtin; refine wpList_append_int (B := g + 1) rfl _ _ 33 rfl 3 j0 Try.underlying33 hj0 jz0 jz1 jz2 a1 k c1 (rowL k t.ot) rfl (FC.own 1) (rowL_len _ _).symm ⟨W3.heap.size, 0, none⟩ 1 (k : Int) rfl ((Bk.new W3 #[.int .i64 (k : Int)] 3).c 0) (by rw [rowL_len]; omega) LC ?_)
            intro g1 k1 W4 H
            have F4 := FC.app 1 H.out.1 H.out.2.1 (by rw [World.size_alloc]; exact H.out.2.2)
            rw [up5_1, rowL_snoc] at F4
            have B4 := FC.keep 1 H.out.2.1 (Nat.lt_succ_self g) BC
            have K4 := FC.kp 1 H.out.2.1 (Nat.le_succ_of_le hgw) KC
            have f2 := B4.f 2
            have d2 := B4.c 2
            have F5 := F4.far (grown_set W4 g 2 (.slice (some ⟨g1, 0, none⟩) (k + 1) k1)) (Nat.lt_succ_self g)
            have B5 := B4.set 2 (.slice (some ⟨g1, 0, none⟩) (k + 1) k1)
            have K5 := K4.setCell (p := ⟨g, 2, none⟩) hgw (.slice (some ⟨g1, 0, none⟩) (k + 1) k1)
            have B5 : Bk (W4.setCell ⟨g, 2, none⟩ (.slice (some ⟨g1, 0, none⟩) (k + 1) k1)) g #[.int .i64 s, .slice (some ⟨g0, 0, none⟩) (k + 1) k0, .slice (some ⟨g1, 0, none⟩) (k + 1) k1] 35 := B5
            clear FC KC BC LC c2' H F4 B4 K4
            have F5 := Lib.hid F5
            have B5 := Lib.hid B5
            have K5 := Lib.hid K5
            go_wp2_with fail
            clear f2 d2
            generalize (W4.setCell ⟨g, 2, none⟩ (.slice (some ⟨g1, 0, none⟩) (k + 1) k1)) = W5 at *
            have c0 := B5.out.c 0
            have ch0 := (F5.out.own 2).cell k (by show k < (rowL (k + 1) (put t.ht k y)).length; rw [rowL_len]; omega)
            have ch : W5.cell? ⟨g2, k, none⟩ = some (.int .i64 y) := by
              have h9 : (rowL (k + 1) (put t.ht k y))[k]'(by rw [rowL_len]; omega) = y := by rw [rowL_get, put_eq]
              rw [← h9]; exact ch0
            clear ch0
            have hk1 : (k : Int) < (k : Int) + 1 := by omega
            go_wp2_with fail
            go_quiet (fail)
            clear c0 ch hk1
            have kp := ((Kp.refl W5).dr nq).al (.cells #[.int .i64 (k : Int)] 3)
            have FD := F5.out.nx kp
            have BD := B5.out.nx kp
            have KD := Kp.nx K5.out kp
            have LD : g + 1 ≤ ((W5.drewN nq).alloc (.cells #[.int .i64 (k : Int)] 3)).heap.size := BD.lt
            clear F5 B5 K5 kp
            by_cases hys : y < s
            · have E9 : step2 i s (wf ws) t k = { ht := put t.ht k y, cu := put t.cu k s, ot := put t.ot k k, lo := t.lo ++ [k], hi := t.hi } := by
                unfold step2
                rw [← HX.out, ← HY.out, if_pos hys, if_pos hys]
              have E9 := Lib.hid E9
              have HNL := Lib.hid (show nl = (nums t.lo).length by rw [nums_len]; exact HT.out.2.1)
              have HNL2 := Lib.hid (show (nums t.lo).length ≤ 1000000 by have := HNL.out; omega)
              have FO : Oi 3 (g + 1) ((W5.drewN nq).alloc (.cells #[.int .i64 (k : Int)] 3)) a3 c3 (nums t.lo) := FD.own 3
              go_wp2_with (at_builtin; refine wpList_append_int (B := g + 1) rfl _ _ 33 rfl 3 j0 Try.underlying33 hj0 jz0 jz1 jz2 a3 nl c3 (nums t.lo) rfl FO HNL.out ⟨W5.heap.size, 0, none⟩ 1 (k : Int) rfl ((Bk.new (W5.drewN nq) #[.int .i64 (k : Int)] 3).c 0) HNL2.out LD ?_)
              intro g3 k3 W6 H
              have F6 := FD.app 3 H.out.1 H.out.2.1 (by rw [World.size_alloc]; exact H.out.2.2)
              rw [up5_3, nums_app] at F6
              have F6 := Lib.hid F6
              have B6 := Lib.hid (FD.keep 3 H.out.2.1 (Nat.lt_succ_self g) BD)
              have K6 := Lib.hid (FD.kp 3 H.out.2.1 (Nat.le_succ_of_le hgw) KD)
              clear FD BD KD LD H
              go_wp2_with fail
              go_roundw
              case rel => exact ⟨k + 1, nl + 1, nh, k0, k1, k2, k3, c4, some ⟨g0, 0, none⟩, some ⟨g1, 0, none⟩, some ⟨g2, 0, none⟩, some ⟨g3, 0, none⟩, a4, step2 i s (wf ws) t k, rfl, rfl, rfl, by go_num, by omega, by omega, Lib.hid ⟨by rw [HT.out.1]; rfl, by rw [E9.out]; simp [HT.out.2.1], by rw [E9.out]; exact HT.out.2.2⟩, by rw [E9.out]; exact F6, B6, K6⟩
              case measure => simp [intOf]; omega
            · have E9 : step2 i s (wf ws) t k = { ht := put t.ht k y, cu := put t.cu k s, ot := put t.ot k k, lo := t.lo, hi := t.hi ++ [k] } := by
                unfold step2
                rw [← HX.out, ← HY.out, if_neg hys, if_neg hys]
              have E9 := Lib.hid E9
              have HNL := Lib.hid (show nh = (nums t.hi).length by rw [nums_len]; exact HT.out.2.2)
              have HNL2 := Lib.hid (show (nums t.hi).length ≤ 1000000 by have := HNL.out; omega)
              have FO : Oi 3 (g + 1) ((W5.drewN nq).alloc (.cells #[.int .i64 (k : Int)] 3)) a4 c4 (nums t.hi) := FD.own 4
              go_wp2_with (at_builtin; refine wpList_append_int (B := g + 1) rfl _ _ 33 rfl 3 j0 Try.underlying33 hj0 jz0 jz1 jz2 a4 nh c4 (nums t.hi) rfl FO HNL.out ⟨W5.heap.size, 0, none⟩ 1 (k : Int) rfl ((Bk.new (W5.drewN nq) #[.int .i64 (k : Int)] 3).c 0) HNL2.out LD ?_)
              intro g4 k4 W6 H
              have F6 := FD.app 4 H.out.1 H.out.2.1 (by rw [World.size_alloc]; exact H.out.2.2)
              rw [up5_4, nums_app] at F6
              have F6 := Lib.hid F6
              have B6 := Lib.hid (FD.keep 4 H.out.2.1 (Nat.lt_succ_self g) BD)
              have K6 := Lib.hid (FD.kp 4 H.out.2.1 (Nat.le_succ_of_le hgw) KD)
              clear FD BD KD LD H
              go_wp2_with fail
              go_roundw
              case rel => exact ⟨k + 1, nl, nh + 1, k0, k1, k2, c3, k4, some ⟨g0, 0, none⟩, some ⟨g1, 0, none⟩, some ⟨g2, 0, none⟩, a3, some ⟨g4, 0, none⟩, step2 i s (wf ws) t k, rfl, rfl, rfl, by go_num, by omega, by omega, Lib.hid ⟨by rw [HT.out.1]; rfl, by rw [E9.out]; exact HT.out.2.1, by rw [E9.out]; simp [HT.out.2.2]⟩, by rw [E9.out]; exact F6, B6, K6⟩
              case measure => simp [intOf]; omega
        · have hlt2 : ¬ ((k : Int) < (i : Int)) := by omega
          have hki : i = k := by omega
          subst hki
          have hOk := (Ok.start (n := i) (s := s) (w := wf ws) (fun j => Int.mul_nonneg (by omega) (wf_ok HAll.out j).1) (fun j => by
            have h2 : (i : Int) * wf ws j ≤ 64 * 1048576 := Int.mul_le_mul (by omega) (wf_ok HAll.out j).2 (wf_ok HAll.out j).1 (by omega)
            omega) i (Nat.le_refl _)).1
          obtain ⟨tb, htb⟩ : ∃ x, x = table i (wf ws) := ⟨_, rfl⟩
          have hT := HT.out
          have HI := Lib.hid (show nl = t.lo.length ∧ nh = t.hi.length ∧ Ok i s t ∧ run3 s (i + 1) t = tb ∧ nl + nh ≤ i + 1 by
            refine ⟨hT.2.1, hT.2.2, by rw [hT.1]; exact hOk, ?_, by omega⟩
            rw [htb, table, hT.1, HS.out])
          have HTB := Lib.hid htb
          have O0 : Oi 2 (g + 1) wr a0 c0 (rowL i t.cu) := HF.out.own 0
          obtain ⟨gc, rfl, -, -⟩ := O0.some_of (rowL_ne _ hn.1)
          have O1 : Oi 3 (g + 1) wr a1 c1 (rowL i t.ot) := HF.out.own 1
          obtain ⟨go, rfl, -, -⟩ := O1.some_of (rowL_ne _ hn.1)
          have O2 : Oi 2 (g + 1) wr a2 c2 (rowL i t.ht) := HF.out.own 2
          obtain ⟨gh, rfl, -, -⟩ := O2.some_of (rowL_ne _ hn.1)
          have HF3 := Lib.hid (show Fv (g + 1) wr (F3 i t gc c0 go c1 gh c2 a3 c3 a4 c4) from HF.out)
          have hnl : nl + nh ≤ i := by omega
          have hac0 : i ≤ c0 := by have := O0.le_cap; rw [rowL_len] at this; exact this
          have hac1 : i ≤ c1 := by have := O1.le_cap; rw [rowL_len] at this; exact this
          clear hT hOk htb HT hlh hk hlt hlt2 HR HAll O0 O1 O2 HF
          go_wp2_with fail
          go_loopw [9, 10] (fun s9 s10 wx => ∃ (p q c3 f : Nat) (a3 : Option Addr) (t : St), s9 = .slice a3 p c3 ∧ s10 = .slice a4 q c4 ∧ p + q ≤ i ∧ Hid (p = t.lo.length ∧ q = t.hi.length ∧ Ok i s t ∧ run3 s f t = tb ∧ p + q ≤ f) ∧ Hid (Fv (g + 1) wx (F3 i t gc c0 go c1 gh c2 a3 c3 a4 c4)) ∧ Hid (Bk wx g #[.int .i64 s, .slice (some ⟨gc, 0, none⟩) i c0, .slice (some ⟨go, 0, none⟩) i c1] 35) ∧ Hid (Kp w wx)) (fun v v' _ => lenV v + lenV v')
          case atStart => exact ⟨nl, nh, c3, i + 1, a3, t, rfl, rfl, hnl, HI, HF3, HB, K⟩
          case round =>
            clear HI HF3 HB K hnl
            obtain ⟨p, q, c3, f, a3, t, rfl, rfl, hpn, HI, HF, HB, K⟩ := hrel
            by_cases hz : p = 0 ∨ q = 0
            · have HE : t = tb := by
                have h := HI.out
                rw [← h.2.2.2.1]
                refine (run3_end ?_ f).symm
                rcases hz with hz | hz
                · left; exact List.eq_nil_of_length_eq_zero (by omega)
                · right; exact List.eq_nil_of_length_eq_zero (by omega)
              have FIN := Lib.hid (show ∃ gc' cc go' co, Tr wr g gc' cc go' co i s tb.cu tb.ot ∧ (w.heap.size ≤ g ∧ w.heap.size ≤ gc' ∧ w.heap.size ≤ go') from
                ⟨gc, c0, go, c1, ⟨HB.out, (F3.apart HF.out).2.2.1, (F3.apart HF.out).2.2.2.1, fun j hj => by rw [← HE]; exact (F3.cut HF.out j hj).1, fun j hj => by rw [← HE]; exact (F3.oth HF.out j hj).1⟩, hgw, by have := (F3.apart HF.out).2.1.1; omega, by have := (F3.apart HF.out).2.1.2.1; omega⟩)
              clear HE HI HF HB
              rcases Nat.eq_zero_or_pos p with hp0 | hp0
              · subst hp0
                clear hz
                go_wp2_with fail
                refine bodyPost_ret (v := .tuple #[.pointer (some ⟨g, 0, none⟩), .int .i64 0]) (by simp [results, Try.results12, go_sem]) rfl ?_
                obtain ⟨gc', cc, go', co, h1, h2⟩ := FIN.out
                exact ⟨g, gc', cc, go', co, rfl, by rw [← HTB.out, ← HS.out]; exact h1, h2, K.out⟩
              · have hq0 : q = 0 := by omega
                subst hq0
                have hp1 : (0 : Int) < (p : Int) := by omega
                clear hz
                go_wp2_with fail
                refine bodyPost_ret (v := .tuple #[.pointer (some ⟨g, 0, none⟩), .int .i64 0]) (by simp [results, Try.results12, go_sem]) rfl ?_
                obtain ⟨gc', cc, go', co, h1, h2⟩ := FIN.out
                exact ⟨g, gc', cc, go', co, rfl, by rw [← HTB.out, ← HS.out]; exact h1, h2, K.out⟩
            · obtain ⟨p1, rfl⟩ : ∃ x, p = x + 1 := ⟨p - 1, by omega⟩
              obtain ⟨q1, rfl⟩ : ∃ x, q = x + 1 := ⟨q - 1, by omega⟩
              obtain ⟨f1, rfl⟩ : ∃ x, f = x + 1 := ⟨f - 1, by have := HI.out.2.2.2.2; omega⟩
              have hI := HI.out
              obtain ⟨l, hl⟩ : ∃ l, t.lo[p1]'(by omega) = l := ⟨_, rfl⟩
              obtain ⟨h, hh⟩ : ∃ h, t.hi[q1]'(by omega) = h := ⟨_, rfl⟩
              have el : t.lo = t.lo.dropLast ++ [l] := by
                have hne : t.lo ≠ [] := by intro e; rw [e] at hI; simp at hI
                have e1 := List.dropLast_concat_getLast hne
                rw [List.getLast_eq_getElem] at e1
                rw [← hl]
                have e2 : t.lo.length - 1 = p1 := by omega
                simp only [e2] at e1
                exact e1.symm
              have eh : t.hi = t.hi.dropLast ++ [h] := by
                have hne : t.hi ≠ [] := by intro e; rw [e] at hI; simp at hI
                have e1 := List.dropLast_concat_getLast hne
                rw [List.getLast_eq_getElem] at e1
                rw [← hh]
                have e2 : t.hi.length - 1 = q1 := by omega
                simp only [e2] at e1
                exact e1.symm
              obtain ⟨hO, hlh, b1, b2, b3, b4, hln, hkn⟩ := hI.2.2.1.step el eh
              have hR := run3_step el eh f1 (s := s)
              rw [hI.2.2.2.1] at hR
              obtain ⟨gl, rfl, hcl, xl⟩ := F3.low HF.out p1 (by omega)
              obtain ⟨gk, hgk, hck, xr⟩ := F3.high HF.out q1 (by omega)
              rw [hl] at xl
              rw [hh] at xr
              have hcl2 : p1 + 1 ≤ c3 := by omega
              have hck2 : q1 + 1 ≤ c4 := by omega
              have hlp : t.lo.dropLast.length = p1 := by rw [List.length_dropLast]; omega
              have hhq : t.hi.dropLast.length = q1 := by rw [List.length_dropLast]; omega
              have HL := Lib.hid (show t.lo = t.lo.dropLast ++ [l] ∧ t.hi = t.hi.dropLast ++ [h] ∧ t.lo.dropLast.length = p1 ∧ t.hi.dropLast.length = q1 ∧ Ok i s (step3 s t l h t.lo.dropLast t.hi.dropLast) ∧ run3 s f1 (step3 s t l h t.lo.dropLast t.hi.dropLast) = tb ∧ p1 + 1 + (q1 + 1) ≤ f1 + 1 from ⟨el, eh, hlp, hhq, hO, hR.symm, hI.2.2.2.2⟩)
              obtain ⟨a0, ha0⟩ : ∃ x, x = t.ht l := ⟨_, rfl⟩
              obtain ⟨b0, hb0⟩ : ∃ x, x = t.ht h := ⟨_, rfl⟩
              rw [← ha0] at b1 b2
              rw [← hb0] at b3 b4
              have HA0 := Lib.hid ha0
              have HB0 := Lib.hid hb0
              clear hI el eh hl hh hO hR hlp hhq ha0 hb0 HI hz hcl hck
              have hcl3 : (p1 : Int) + 1 ≤ (c3 : Int) := by omega
              have hck3 : (q1 : Int) + 1 ≤ (c4 : Int) := by omega
              have hl3 : (l : Int) < (i : Int) := by omega
              have hk3 : (h : Int) < (i : Int) := by omega
              subst hgk
              go_wp2_with fail
              go_quiet (fail)
              have HFd := Lib.hid (HF.out.nx ((Kp.refl _).dr nq))
              have HBd := Lib.hid (HB.out.nx ((Kp.refl _).dr nq))
              have Kd := Lib.hid (Kp.nx K.out ((Kp.refl _).dr nq))
              clear HF HB K xl xr
              go_wp2_with fail
              generalize World.drewN _ nq = X1 at *
              obtain ⟨⟨ne3, ne8, ne9⟩, ⟨nb1, nb2, nb3⟩, -⟩ := F3.apart HFd.out
              have ne1 : g ≠ gc := by omega
              have ne2 : g ≠ go := by omega
              have ne7 : g ≠ gh := by omega
              have me1 := ne1.symm
              have me2 := ne2.symm
              have me3 := ne3.symm
              have me7 := ne7.symm
              have me8 := ne8.symm
              have me9 := ne9.symm
              have HB := HBd.out
              obtain ⟨d0, d1, d2⟩ := Bk.lits HB
              have xa := (F3.hgt HFd.out l hln).1
              rw [← HA0.out] at xa
              obtain ⟨xc, fc⟩ := F3.cut HFd.out l hln
              obtain ⟨xo, fo⟩ := F3.oth HFd.out l hln
              generalize t.cu l = vc at xc
              generalize t.ot l = vo at xo
              have HBr := HB.nx (Kp.refl _).dr1
              have xar : X1.drew.cell? ⟨gh, l, none⟩ = some (.int .i64 a0) := xa
              have XA := Lib.hid xa
              have XAR := Lib.hid xar
              clear xar
              go_region_held3 (fun W => (W.cell? ⟨g, 0, none⟩ = some (.int .i64 s) ∧ W.cell? ⟨g, 1, none⟩ = some (.slice (some ⟨gc, 0, none⟩) i c0) ∧ W.cell? ⟨g, 2, none⟩ = some (.slice (some ⟨go, 0, none⟩) i c1)) ∧ W.cell? ⟨gh, l, none⟩ = some (.int .i64 a0))
                (first
                  | exact ⟨Bk.lits HB, XA.out⟩
                  | exact ⟨Bk.lits HBr, XAR.out⟩
                  | exact ⟨Bk.lits (Bk.other9 HBr ne1 _ _), cell_set XAR.out me8⟩
                  | exact ⟨Bk.lits (Bk.other9 (Bk.other9 HBr ne1 _ _) ne2 _ _), cell_set (cell_set XAR.out me8) me9⟩)
                (fail)
              have HF2 := F3.fillA HFd.out l a0 (h : Int)
              have HB2 := Bk.other9 (Bk.other9 HB ne1 l (.int .i64 a0)) ne2 l (.int .i64 (h : Int))
              have K2 : Kp w ((X1.setCell ⟨gc, l, none⟩ (.int .i64 a0)).setCell ⟨go, l, none⟩ (.int .i64 (h : Int))) := (Kd.out.setCell (p := ⟨gc, l, none⟩) (by simp; omega) _).setCell (p := ⟨go, l, none⟩) (by simp; omega) _
              clear HFd HBd Kd HB HBr d0 d1 d2 xa xc xo fc fo XA XAR
              generalize ((X1.setCell ⟨gc, l, none⟩ (.int .i64 a0)).setCell ⟨go, l, none⟩ (.int .i64 (h : Int))) = X2 at *
              have HF3 := Lib.hid (HF2.nx (Kp.refl X2).dr1)
              have HB3 := Lib.hid (HB2.nx (Kp.refl X2).dr1)
              have K3 := Lib.hid (show Kp w X2.drew from Kp.nx K2 (Kp.refl X2).dr1)
              generalize X2.drew = X3 at *
              clear HF2 HB2 K2
              have d0 := HB3.out.c 0
              have xa := (F3.hgt HF3.out l hln).1
              obtain ⟨xb, fb⟩ := F3.hgt HF3.out h hkn
              simp only at xa xb
              rw [← HA0.out] at xa
              rw [← HB0.out] at xb
              go_wp2_with fail
              go_region
              obtain ⟨v, hv⟩ : ∃ v : Int, v = b0 - (s - a0) := ⟨_, rfl⟩
              simp only [← hv]
              have hvb : 0 ≤ v ∧ v ≤ 134217728 := by omega
              have HVV := Lib.hid hv
              have HF4 := F3.fillB HF3.out h v
              have HB4 := Bk.other9 HB3.out ne7 h (.int .i64 v)
              have K4 : Kp w (X3.setCell ⟨gh, h, none⟩ (.int .i64 v)) := K3.out.setCell (p := ⟨gh, h, none⟩) (by simp; omega) _
              clear HF3 HB3 K3 d0 xa xb fb hv
              generalize (X3.setCell ⟨gh, h, none⟩ (.int .i64 v)) = X4 at *
              have HF5 := Lib.hid (HF4.nx (Kp.refl X4).dr1)
              have HB5 := Lib.hid (HB4.nx (Kp.refl X4).dr1)
              have K5 := Lib.hid (show Kp w X4.drew from Kp.nx K4 (Kp.refl X4).dr1)
              generalize X4.drew = X5 at *
              clear HF4 HB4 K4
              have d0 := HB5.out.c 0
              have xv := (F3.hgt HF5.out h hkn).1
              simp only [put_eq] at xv
              clear b1 b2 b3 b4 hlh ne1 ne2 ne3 ne7 ne8 ne9 me1 me2 me3 me7 me8 me9
              go_wp2_with fail
              go_quiet (fail)
              clear d0 xv
              by_cases hvs : v < s
              · have E9 : step3 s t l h t.lo.dropLast t.hi.dropLast = { ht := put t.ht h v, cu := put t.cu l a0, ot := put t.ot l h, lo := t.lo.dropLast ++ [h], hi := t.hi.dropLast } := by
                  unfold step3
                  rw [← HA0.out, ← HB0.out, ← HVV.out]
                  dsimp only
                  rw [if_pos hvs, if_pos hvs]
                have kp : Kp X5 ((X5.drewN nq).alloc (.cells #[.int .i64 (h : Int)] 3)) := ((Kp.refl X5).dr nq).al _
                have HF6 := F3.cut_lo (F3.cut_hi HF5.out (hi' := t.hi.dropLast) (x := [h]) HL.out.2.1) (lo' := t.lo.dropLast) (x := [l]) HL.out.1
                have HF7 := Lib.hid (HF6.nx kp)
                have HB7 := HB5.out.nx kp
                have K7 := K5.out.nx kp
                have L7 : g + 1 ≤ ((X5.drewN nq).alloc (.cells #[.int .i64 (h : Int)] 3)).heap.size := HB7.lt
                have HNL := Lib.hid (show p1 = (nums t.lo.dropLast).length by rw [nums_len]; exact HL.out.2.2.1.symm)
                have HNL2 := Lib.hid (show (nums t.lo.dropLast).length ≤ 1000000 by have := HNL.out; omega)
                have FO : Oi 3 (g + 1) ((X5.drewN nq).alloc (.cells #[.int .i64 (h : Int)] 3)) (some ⟨gl, 0, none⟩) c3 (nums t.lo.dropLast) := HF7.out.own 3
                have FO := Lib.hid FO
                have E9 := Lib.hid E9
                clear HF5 HB5 K5 HF6 kp
                have HB7 := Lib.hid HB7
                have K7 := Lib.hid K7
                go_wp2_with (at_builtin; refine wpList_append_int (B := g + 1) rfl _ _ 33 rfl 3 j0 Try.underlying33 hj0 jz0 jz1 jz2 (some ⟨gl, 0, none⟩) p1 c3 (nums t.lo.dropLast) rfl FO.out HNL.out ⟨X5.heap.size, 0, none⟩ 1 (h : Int) rfl ((Bk.new (X5.drewN nq) #[.int .i64 (h : Int)] 3).c 0) HNL2.out L7 ?_)
                intro g3 k3 X8 H
                have HF8 := F3.app_lo HF7.out H.out.1 H.out.2.1 (by rw [World.size_alloc]; exact H.out.2.2)
                have HF8 : Fv (g + 1) X8 (F3 i (step3 s t l h t.lo.dropLast t.hi.dropLast) gc c0 go c1 gh c2 (some ⟨g3, 0, none⟩) k3 (some ⟨gk, 0, none⟩) c4) := by rw [E9.out]; exact HF8
                have HF8 := Lib.hid HF8
                have HB8 := Lib.hid (HF7.out.keep 3 H.out.2.1 (Nat.lt_succ_self g) HB7.out)
                have K8 := Lib.hid (HF7.out.kp 3 H.out.2.1 (Nat.le_succ_of_le hgw) K7.out)
                clear HF7 HB7 K7 FO L7 H
                go_wp2_with fail
                go_roundw
                case rel => exact ⟨p1 + 1, q1, k3, f1, some ⟨g3, 0, none⟩, step3 s t l h t.lo.dropLast t.hi.dropLast, rfl, rfl, by omega, Lib.hid ⟨by rw [E9.out]; simp [HL.out.2.2.1], by rw [E9.out]; exact HL.out.2.2.2.1.symm, HL.out.2.2.2.2.1, HL.out.2.2.2.2.2.1, by have := HL.out.2.2.2.2.2.2; omega⟩, HF8, HB8, K8⟩
                case measure => simp [lenV]
              · have E9 : step3 s t l h t.lo.dropLast t.hi.dropLast = { ht := put t.ht h v, cu := put t.cu l a0, ot := put t.ot l h, lo := t.lo.dropLast, hi := t.hi } := by
                  unfold step3
                  rw [← HA0.out, ← HB0.out, ← HVV.out]
                  dsimp only
                  rw [if_neg hvs, if_neg hvs, ← HL.out.2.1]
                have kp : Kp X5 (X5.drewN nq) := (Kp.refl X5).dr nq
                have HF6 := (F3.cut_lo HF5.out (lo' := t.lo.dropLast) (x := [l]) HL.out.1).nx kp
                have HF7 : Fv (g + 1) (X5.drewN nq) (F3 i (step3 s t l h t.lo.dropLast t.hi.dropLast) gc c0 go c1 gh c2 (some ⟨gl, 0, none⟩) c3 (some ⟨gk, 0, none⟩) c4) := by rw [E9]; exact HF6
                have hql : t.hi.length = q1 + 1 := by rw [HL.out.2.1, List.length_append, HL.out.2.2.2.1]; rfl
                have HQL := Lib.hid hql
                have HF7 := Lib.hid HF7
                have E9 := Lib.hid E9
                have HB7 := Lib.hid (HB5.out.nx kp)
                have K7 := Lib.hid (Kp.nx K5.out kp)
                clear HF5 HB5 K5 HF6 hql kp
                go_wp2_with fail
                go_roundw
                case rel => exact ⟨p1, q1 + 1, c3, f1, some ⟨gl, 0, none⟩, step3 s t l h t.lo.dropLast t.hi.dropLast, rfl, rfl, by omega, Lib.hid ⟨by rw [E9.out]; exact HL.out.2.2.1.symm, by rw [E9.out]; exact HQL.out.symm, HL.out.2.2.2.2.1, HL.out.2.2.2.2.2.1, by have := HL.out.2.2.2.2.2.2; omega⟩, HF7, HB7, K7⟩
                case measure => simp [lenV]; try omega
end Go.Proofs.AL
