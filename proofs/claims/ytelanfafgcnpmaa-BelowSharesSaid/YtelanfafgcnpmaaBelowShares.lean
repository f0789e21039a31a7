/- The statement BelowShares: of all strings of n bits each number below m comes by as many as any other one: as many as the tries tell. No condition. -/
import Derived.Test.YtelanfafgcnpmaaRows
import Derived.WalkKit
import Derived.ProofKit
import Derived.OpenShut
import Derived.Test.YtelanfafgcnpmaaBelT
import Derived.Deep.RegionHeld3
import Derived.Stop.RegionWithIn
import Derived.ShutString
import Derived.Below
namespace Go.Proofs.Ytelanfafgcnpmaa.belowShares
open Go.ChangeShapes Go.WideShapes Go.ChangeAt Go.RowKit
open Go.Proofs
open Go.ChangeMaps (open_string shut_string)
set_option linter.unusedVariables false      -- a walk need not use every 'w<i>' (that an integer argument fits its kind)

theorem own : ownKnob Try.prog.godebug = none := by kernel_rfl

open Go.Proofs.BL Go.Proofs.SL Go.Proofs.RA Go.Proofs.BT Go.Proofs.RO Go.Shelf
set_option linter.unusedSimpArgs false
attribute [local go_sem] Oper.semAt_some

/-! ### STEP 1: THE WALK: the Go text returns true. 'Grown w w'': the world has at most new blocks (Derived/RowKit3.lean). Part the cases AHEAD of 'go_enter' where a test parts the walk; take each callee by a contract of your own. -/
set_option maxHeartbeats 8000000 in
set_option maxRecDepth 100000 in
theorem walk (a0 : Int) (a1 : Int) (w0 : (Lit.int .u8 a0).wf = true) (w1 : (Lit.int .u8 a1).wf = true) (w : World) :
    Calls Try.prog 8 #[.int .u8 a0, .int .u8 a1] w fun e w' => e = .returned (.bool true) ∧ Below w.heap.size w w' := by
  have hbm := bounds_u8 w0
  have hbn := bounds_u8 w1
  obtain ⟨m, rfl⟩ : ∃ m : Nat, a0 = m := ⟨a0.toNat, by omega⟩
  obtain ⟨n, rfl⟩ : ∃ n : Nat, a1 = n := ⟨a1.toNat, by omega⟩
  obtain ⟨k, hk⟩ : ∃ k, k = m % 64 + 1 := ⟨_, rfl⟩
  obtain ⟨z, hz⟩ : ∃ z, z = n % 10 := ⟨_, rfl⟩
  have HE := Lib.hid (show ((m : Int) % 64 + 1 = (k : Int) ∧ 1 + (m : Int) % 64 = (k : Int)) ∧ (n : Int) % 10 = (z : Int) by omega)
  have hk1 : 1 ≤ k ∧ k ≤ 64 := by omega
  have hz1 : z ≤ 9 := by omega
  clear hk hz
  obtain ⟨b, hb⟩ : ∃ b, b = wid k := ⟨_, rfl⟩
  have hb6 : b ≤ 6 := by rw [hb]; exact wid_6 hk1.1 hk1.2
  have HW := Lib.hid (fun w1 => width1 k w1 (by omega) b hb)
  have HB := Lib.hid hb
  clear hb
  refine (callsIn_wide (n := 12)).1 ?_
  refine callsIn_of_wp_marks Try.func8 rfl trivial ?_ rfl
  simp only [Try.ntmps8, List.size_toArray, List.length_cons, List.length_nil, Nat.reduceAdd, Nat.reduceSub, Array.replicate_succ, Array.replicate_zero, List.push_toArray, List.append_toArray, List.nil_append, List.cons_append]
  gi_wp2_with fail
  have bR := Boxed.new w 4 (.bool false)
  have K := Lib.hid ((Kp.refl w).al (.cells #[.bool false] 4))
  have hs0 : (w.alloc (.cells #[.bool false] 4)).heap.size = w.heap.size + 1 := World.size_alloc _ _
  generalize (w.alloc (.cells #[.bool false] 4)) = W0 at *
  refine ⟨trivial, ?_⟩
  refine (callsIn_wide.2 (awake _)).mono ?_; rintro e w1 ⟨rfl, hb⟩
  replace bR := boxed_nx bR hb
  replace K := Lib.hid (Kp.nx K.out hb)
  have hG0 : w.heap.size < w1.heap.size := bR.lt
  clear hb hs0
  gi_wp2_with fail
  obtain ⟨⟨ek1, ek2⟩, ez⟩ := HE.out
  try simp only [ek1, ek2, ez]
  clear ek1 ek2 ez HE
  have bk := Boxed.new w1 22 (.int .u64 (k : Int))
  have KA := (Kp.refl w1).al (.cells #[.int .u64 (k : Int)] 22)
  replace bR := boxed_nx bR KA
  replace K := Lib.hid (Kp.nx K.out KA)
  obtain ⟨G, hG⟩ : ∃ G, w1.heap.size = G := ⟨_, rfl⟩
  rw [hG] at bk hG0
  simp only [hG]
  clear KA hG
  generalize (w1.alloc (.cells #[.int .u64 (k : Int)] 22)) = V at *
  refine ⟨trivial, ?_⟩
  refine (callsIn_wide.2 (HW.out _)).mono ?_; rintro e w' ⟨rfl, rfl⟩
  clear HW
  gi_wp2_with fail
  refine wpIn_wide.2 ?_
  go_loopw [8, 9, 10] (fun s8 s9 s10 wr => ∃ (t want fail : Nat), s8 = .int .i64 (want : Int) ∧ s9 = .int .i64 (fail : Int) ∧ s10 = .int .i64 (t : Int) ∧ Hid (Try9 k b z t want fail) ∧ t ≤ 10 ∧ Hid (Kp V wr)) (fun _ _ v _ => 12 - (intOf v).toNat)
  case atStart => exact ⟨1, 0, 1, rfl, rfl, rfl, Lib.hid (Try9.start k b z), by omega, Lib.hid (Kp.refl V)⟩
  case round =>
    obtain ⟨t, want, fail, rfl, rfl, rfl, HT, ht, KV⟩ := hrel
    obtain ⟨p, hp⟩ : ∃ p, p = t * b := ⟨_, rfl⟩
    have hp60 : p ≤ 60 := by rw [hp]; exact Nat.mul_le_mul ht hb6
    have hpI : (t : Int) * (b : Int) = (p : Int) := by rw [hp, Int.natCast_mul]
    have hz9 : 2 ^ z ≤ 2 ^ 9 := Nat.pow_le_pow_right (by decide) hz1
    have hw512 : want ≤ 512 := Nat.le_trans HT.out.want_le hz9
    have hf512 : fail ≤ 512 := Nat.le_trans HT.out.fail_le hz9
    by_cases hlt : 0 < b ∧ p ≤ z
    · obtain ⟨hN, hN2⟩ := HT.out.next (by omega) HB.out hlt.1 (by rw [← hp]; exact hlt.2)
      rw [← hp] at hN hN2
      obtain ⟨e, he⟩ : ∃ e, e = z - p := ⟨_, rfl⟩
      obtain ⟨f2, hf2⟩ : ∃ f, f = fail * 2 ^ e := ⟨_, rfl⟩
      obtain ⟨B2, hB2⟩ : ∃ B, B = 2 ^ b := ⟨_, rfl⟩
      obtain ⟨c, hc⟩ : ∃ c, c = B2 - k := ⟨_, rfl⟩
      obtain ⟨f3, hf3⟩ : ∃ f, f = fail * c := ⟨_, rfl⟩
      have hkB : k ≤ B2 := by rw [hB2, HB.out]; exact lt_wid k (by omega)
      have hB64 : B2 ≤ 64 := by rw [hB2]; exact Nat.pow_le_pow_right (by decide) hb6
      rw [← he] at hN hN2
      rw [← hf2] at hN hN2
      rw [← hB2, ← hc, ← hf3] at hN
      have hf2' : f2 ≤ 512 := Nat.le_trans hN2 hz9
      have hf3' : f3 ≤ 512 := Nat.le_trans hN.fail_le hz9
      have s0 : (0 : Int) < (b : Int) := by omega
      have s1 : (p : Int) ≤ (z : Int) := by omega
      have s2 : (z : Int) - (p : Int) = (e : Int) := by omega
      have s3 : IntKind.i64.wrap ((fail : Int) * (2 : Int) ^ e) = (f2 : Int) := by
        have h1 : (2 : Int) ^ e = ((2 ^ e : Nat) : Int) := by simp
        rw [h1, ← Int.natCast_mul, ← hf2, IntKind.wrap_i64]; omega
      have s4 : IntKind.i64.wrap ((2 : Int) ^ b) = (B2 : Int) := by
        have h1 : (2 : Int) ^ b = ((2 ^ b : Nat) : Int) := by simp
        rw [h1, ← hB2, IntKind.wrap_i64]; omega
      have s5 : (B2 : Int) - (k : Int) = (c : Int) := by omega
      have s6 : (fail : Int) * (c : Int) = (f3 : Int) := by rw [hf3, Int.natCast_mul]
      have s7 : IntKind.i64.wrap (p : Int) = (p : Int) := by rw [IntKind.wrap_i64]; omega
      have s8 : IntKind.i64.wrap (e : Int) = (e : Int) := by rw [IntKind.wrap_i64]; omega
      have s9 : IntKind.i64.wrap (c : Int) = (c : Int) := by rw [IntKind.wrap_i64]; omega
      have sa : IntKind.i64.wrap (f3 : Int) = (f3 : Int) := by rw [IntKind.wrap_i64]; omega
      have sb : IntKind.i64.wrap (k : Int) = (k : Int) := by rw [IntKind.wrap_i64]; omega
      have ht9 : t ≤ 9 := by
        have : t * 1 ≤ t * b := Nat.mul_le_mul_left _ hlt.1
        omega
      have HN := Lib.hid hN
      have ck := (boxed_nx bk KV.out).cell
      clear hlt hN hN2 he hf2 hB2 hc hf3 hkB hp
      go_wp2_with fail
      go_quiet (fail)
      go_wp2_with fail
      go_roundw
      case rel => exact ⟨t + 1, want + f2, f3, by go_num, by go_num, by go_num, HN, by omega, Lib.hid (KV.out.dr nq)⟩
      case measure => simp [intOf]; omega
    · have hfin : (¬ ((p : Int) ≤ (z : Int)) ∧ ((b : Int) == 0) = false ∧ want = cnt k 0 z) ∨ ((p : Int) ≤ (z : Int) ∧ (b : Int) = 0 ∧ ∃ wt : Nat, wt ≤ 512 ∧ IntKind.i64.wrap ((2 : Int) ^ z) = (wt : Int) ∧ wt = cnt k 0 z) := by
        rcases Nat.lt_or_ge z p with h | h
        · left
          refine ⟨by omega, ?_, HT.out.done HB.out (by omega)⟩
          rw [beq_eq_false_iff_ne]
          intro hb0
          have : b = 0 := by omega
          rw [hp, this] at h; omega
        · right
          have hb0 : b = 0 := by omega
          have h1 := wid_zero k (by omega) (by rw [← HB.out]; exact hb0)
          refine ⟨by omega, by omega, 2 ^ z, hz9, ?_, ?_⟩
          · have h2 : (2 : Int) ^ z = ((2 ^ z : Nat) : Int) := by simp
            rw [h2]
            generalize 2 ^ z = Q at *
            rw [IntKind.wrap_i64]; omega
          · rw [h1]; exact cnt_one.symm
      have s7 : IntKind.i64.wrap (p : Int) = (p : Int) := by rw [IntKind.wrap_i64]; omega
      replace bk := boxed_nx bk KV.out
      replace bR := boxed_nx bR KV.out
      replace K := Lib.hid (Kp.nx K.out KV.out)
      clear KV hlt hp HT
      rcases hfin with ⟨hf1, hf2, hwt⟩ | ⟨hf1, hf2, wt, hw5, hf3, hwt⟩
      · have HWT := Lib.hid hwt
        clear hwt
        go_wp2_with fail
        clear hf1 s7
        gi_wp2_with fail
        refine ⟨trivial, ?_⟩
        show CallsIn _ _ _ _ _ (wr.alloc (.cells (arr (fun _ => 0)) 60)) _
        have bA := Bk.new wr (arr (fun _ => 0)) 60
        have KA := (Kp.refl wr).al (.cells (arr (fun _ => 0)) 60)
        have hga0 := bk.lt
        replace bR := boxed_nx bR KA
        replace bk := boxed_nx bk KA
        replace K := Lib.hid (Kp.nx K.out KA)
        have hs1 : (wr.alloc (.cells (arr (fun _ => 0)) 60)).heap.size = wr.heap.size + 1 := World.size_alloc _ _
        clear KA
        generalize (wr.alloc (.cells (arr (fun _ => 0)) 60)) = Y at *
        obtain ⟨ga, hga⟩ : ∃ g, wr.heap.size = g := ⟨_, rfl⟩
        rw [hga] at bA hga0 hs1
        simp only [hga]
        clear hga
        refine (callsIn_wide.2 (all_mk (z : Int) Y)).mono ?_; rintro e V2 ⟨rfl, hV2⟩
        have KA : Kp Y (Y.alloc (.cells #[.int .i64 (z : Int)] 3)) := (Kp.refl _).al _
        rw [hV2] at KA
        have bZ := Boxed.new Y 3 (.int .i64 (z : Int))
        rw [hV2, hs1] at bZ
        have hs2 : V2.heap.size = ga + 1 + 1 := by rw [← hV2, World.size_alloc, hs1]
        replace bR := boxed_nx bR KA
        replace bk := boxed_nx bk KA
        replace bA := bA.nx KA
        replace K := Lib.hid (Kp.nx K.out KA)
        clear hV2 KA
        gi_wp2_with fail
        try simp only [hs1]
        clear hs1
        refine rangeO rfl (by decide) (gf := 50) (lb := #[.pointer (some ⟨ga + 1, 0, none⟩)]) rfl trivial (enters_of Try.func50 (by kernel_rfl) rfl)
          (all_seq _ (ga + 1) z (2 ^ z) rfl V2 (by omega) (by omega) bZ.cell) (Below.refl _ _) (fun l _ h1 h2 _ h => by rcases h with h | h <;> omega) (fun _ => rfl)
          (fun i X => Boxed X G 22 (.int .u64 (k : Int)) ∧ Boxed X w.heap.size 4 (.bool false) ∧ X.heap[ga]? = some (.cells (arr (cs9 k z i)) 60 (0, 0)) ∧ Below w.heap.size w X)
          (fun _ _ _ => False)
          (OwnFrom.and (Own.from (boxed_own _ _ _) _) (OwnFrom.and (Own.from (boxed_own _ _ _) _) (OwnFrom.and (own_objf (by omega)) (ownFrom_below (Nat.le_refl _) (by omega)))))
          (fun _ _ _ _ _ hs _ _ => hs)
          ⟨bk, bR, bA, K.out⟩ ?round ?done ?stop
        case stop =>
          rintro D c k X hD hk h hK
          exact h.elim
        case round =>
          clear bk bR bA K
          intro lr i V0 hlr hi
          gi_wp2
          refine ⟨rfl, ?_⟩
          rintro X ⟨bk, bR, bA, KX⟩
          have bA : Bk X ga (arr (cs9 k z i)) 60 := bA
          have hi9 : i ≤ 512 := by
            have : 2 ^ z ≤ 2 ^ 9 := Nat.pow_le_pow_right (by decide) hz1
            omega
          have ck := bk.cell
          obtain ⟨R, hR⟩ : ∃ R, R = dn k z i := ⟨_, rfl⟩
          have HBY := Lib.hid (fun (W1 : World) => by1 (ofB i z) k W1 (by rw [ofB_size]; omega) (by omega) R (by rw [hR, byD_ofB (by omega) (by omega)]))
          have hxk : R.is = true → R.x < k := by rw [hR]; exact dn_x
          have HR := Lib.hid hR
          clear hR
          obtain ⟨x, is, t2, ov⟩ := R
          simp only at hxk HBY
          cases is
          · gi_wp2_with (refine ⟨trivial, ?_⟩; gi_at_call 18; refine (CallsIn.inRound lr (callsIn_wide.2 (HBY.out _))).mono ?_; rintro e X1 ⟨rfl, hb4⟩; have KX1 := Lib.hid (show Below w.heap.size w X1 from KX.trans (Below.mono hb4 KX.size)); replace bk := boxed_nx bk hb4; replace bR := boxed_nx bR hb4; replace bA := bA.nx hb4; clear ck HBY)
            exact ⟨⟨keepsFrom_below hb4, Kb.below hb4⟩, bk, bR, by rw [cs9_next_no HR.out.symm]; exact bA, KX1.out⟩
          · have hx := hxk rfl
            have hx64 : x < 64 := by omega
            have hx2 : ¬ ((k : Int) ≤ (x : Int)) := by omega
            have hx3 : (x : Int) < 64 := by omega
            obtain ⟨c, hc⟩ : ∃ c, c = cs9 k z i x := ⟨_, rfl⟩
            have hc512 : c ≤ 512 := by rw [hc]; exact Nat.le_trans (cs9_le k z i x) hi9
            have hcx := arr_get (cs9 k z i) x hx64
            rw [← hc] at hcx
            have HC := Lib.hid hc
            clear hc
            gi_wp2_with (refine ⟨trivial, ?_⟩; gi_at_call 18; refine (CallsIn.inRound lr (callsIn_wide.2 (HBY.out _))).mono ?_; rintro e X1 ⟨rfl, hb4⟩; have KX1 := Lib.hid (show Below w.heap.size w X1 from KX.trans (Below.mono hb4 KX.size)); replace bk := boxed_nx bk hb4; replace bR := boxed_nx bR hb4; replace bA := bA.nx hb4; have ck2 := bk.cell; have cx := (bA.c x).trans hcx; have fx := bA.f x; clear ck HBY)
            have bA2 := bA.set x (.int .i64 ((c + 1 : Nat) : Int))
            rw [arr_set _ _ _ hx64] at bA2
            have ec : ((c + 1 : Nat) : Int) = (c : Int) + 1 := by omega
            rw [ec] at bA2
            have hne1 : G ≠ ga := by omega
            have hne2 : w.heap.size ≠ ga := by omega
            refine ⟨⟨(keepsFrom_below hb4).trans ⟨(grown_set X1 ga x _).size, fun k o hk ho _ => (Below.heap_setCell _ _ _ k (by simp; omega)).trans ho⟩, (Kb.below hb4).trans (Kb.grown (grown_set X1 ga x _) (fun r o e ho => by cases e; intro h; rcases h with h | h <;> omega))⟩, (Below.heap_setCell _ _ _ G hne1).trans bk, (Below.heap_setCell _ _ _ w.heap.size hne2).trans bR, ?_, KX1.out.setCell (p := ⟨ga, x, none⟩) (by simp; omega) _⟩
            rw [cs9_next_yes HR.out.symm, ← HC.out]
            exact bA2
        case done =>
          rintro D X hD ⟨bk, bR, bA, KX⟩ hK
          have bA : Bk X ga (arr (cs9 k z (2 ^ z))) 60 := bA
          have HX := Lib.hid (fun (x : Nat) (hx : x < k) => show X.cell? ⟨ga, x, none⟩ = some (.int .i64 (want : Int)) from (bA.c x).trans ((arr_get _ x (by omega)).trans (by rw [cs9_end (by omega) hx, ← HWT.out])))
          have ck := bk.cell
          have cR := bR.cell
          have fR := bR.frozen
          gi_wp2_with fail
          refine wpIn_wide.2 ?_
          go_loopw [16] (fun s16 wr => ∃ i : Nat, s16 = .int .u64 (i : Int) ∧ i ≤ k ∧ wr = X) (fun v _ => k - (intOf v).toNat)
          case atStart => exact ⟨0, rfl, by omega, rfl⟩
          case round =>
            obtain ⟨i, rfl, hi, rfl⟩ := hrel
            by_cases hlt : i < k
            · have hlt2 : (i : Int) < (k : Int) := by omega
              have hlt3 : (i : Int) < 64 := by omega
              have cx := HX.out i hlt
              clear HX
              go_wp2_with fail
              go_roundw
              case rel => exact ⟨i + 1, by go_num, by omega, by trivial⟩
              case measure => simp [intOf]; omega
            · have hlt2 : ¬ ((i : Int) < (k : Int)) := by omega
              clear HX
              go_wp2_with fail
              gi_wp2_with fail
              have hRD : w.heap.size ≠ D := by omega
              have hK2 := (Below.heap_setCell wr ⟨w.heap.size, 0, none⟩ (.bool true) D (fun e => hRD e.symm)).trans hK
              have hY := (((Boxed.set (.bool true) bR).kept (grownBy_putObj' _ D (.deferred none)) (by simp; exact hRD))).cell
              have KY := KX.setCell (p := ⟨w.heap.size, 0, none⟩) (Nat.le_refl _) (.bool true)
              refine ⟨by simp, .inl ⟨_, _, rfl, run_takeDeferred hK2, ?_⟩⟩
        
              refine ⟨_, by simp [results, Try.results8, go_sem, hY], rfl, KY.grown (grownBy_putObj' _ D _) KY.size (fun k e => by cases e; omega)⟩
      · have HWT := Lib.hid hwt
        clear hwt
        go_wp2_with fail
        clear hf1 s7
        gi_wp2_with fail
        refine ⟨trivial, ?_⟩
        show CallsIn _ _ _ _ _ (wr.alloc (.cells (arr (fun _ => 0)) 60)) _
        have bA := Bk.new wr (arr (fun _ => 0)) 60
        have KA := (Kp.refl wr).al (.cells (arr (fun _ => 0)) 60)
        have hga0 := bk.lt
        replace bR := boxed_nx bR KA
        replace bk := boxed_nx bk KA
        replace K := Lib.hid (Kp.nx K.out KA)
        have hs1 : (wr.alloc (.cells (arr (fun _ => 0)) 60)).heap.size = wr.heap.size + 1 := World.size_alloc _ _
        clear KA
        generalize (wr.alloc (.cells (arr (fun _ => 0)) 60)) = Y at *
        obtain ⟨ga, hga⟩ : ∃ g, wr.heap.size = g := ⟨_, rfl⟩
        rw [hga] at bA hga0 hs1
        simp only [hga]
        clear hga
        refine (callsIn_wide.2 (all_mk (z : Int) Y)).mono ?_; rintro e V2 ⟨rfl, hV2⟩
        have KA : Kp Y (Y.alloc (.cells #[.int .i64 (z : Int)] 3)) := (Kp.refl _).al _
        rw [hV2] at KA
        have bZ := Boxed.new Y 3 (.int .i64 (z : Int))
        rw [hV2, hs1] at bZ
        have hs2 : V2.heap.size = ga + 1 + 1 := by rw [← hV2, World.size_alloc, hs1]
        replace bR := boxed_nx bR KA
        replace bk := boxed_nx bk KA
        replace bA := bA.nx KA
        replace K := Lib.hid (Kp.nx K.out KA)
        clear hV2 KA
        gi_wp2_with fail
        try simp only [hs1]
        clear hs1
        refine rangeO rfl (by decide) (gf := 50) (lb := #[.pointer (some ⟨ga + 1, 0, none⟩)]) rfl trivial (enters_of Try.func50 (by kernel_rfl) rfl)
          (all_seq _ (ga + 1) z (2 ^ z) rfl V2 (by omega) (by omega) bZ.cell) (Below.refl _ _) (fun l _ h1 h2 _ h => by rcases h with h | h <;> omega) (fun _ => rfl)
          (fun i X => Boxed X G 22 (.int .u64 (k : Int)) ∧ Boxed X w.heap.size 4 (.bool false) ∧ X.heap[ga]? = some (.cells (arr (cs9 k z i)) 60 (0, 0)) ∧ Below w.heap.size w X)
          (fun _ _ _ => False)
          (OwnFrom.and (Own.from (boxed_own _ _ _) _) (OwnFrom.and (Own.from (boxed_own _ _ _) _) (OwnFrom.and (own_objf (by omega)) (ownFrom_below (Nat.le_refl _) (by omega)))))
          (fun _ _ _ _ _ hs _ _ => hs)
          ⟨bk, bR, bA, K.out⟩ ?round ?done ?stop
        case stop =>
          rintro D c k X hD hk h hK
          exact h.elim
        case round =>
          clear bk bR bA K
          intro lr i V0 hlr hi
          gi_wp2
          refine ⟨rfl, ?_⟩
          rintro X ⟨bk, bR, bA, KX⟩
          have bA : Bk X ga (arr (cs9 k z i)) 60 := bA
          have hi9 : i ≤ 512 := by
            have : 2 ^ z ≤ 2 ^ 9 := Nat.pow_le_pow_right (by decide) hz1
            omega
          have ck := bk.cell
          obtain ⟨R, hR⟩ : ∃ R, R = dn k z i := ⟨_, rfl⟩
          have HBY := Lib.hid (fun (W1 : World) => by1 (ofB i z) k W1 (by rw [ofB_size]; omega) (by omega) R (by rw [hR, byD_ofB (by omega) (by omega)]))
          have hxk : R.is = true → R.x < k := by rw [hR]; exact dn_x
          have HR := Lib.hid hR
          clear hR
          obtain ⟨x, is, t2, ov⟩ := R
          simp only at hxk HBY
          cases is
          · gi_wp2_with (refine ⟨trivial, ?_⟩; gi_at_call 18; refine (CallsIn.inRound lr (callsIn_wide.2 (HBY.out _))).mono ?_; rintro e X1 ⟨rfl, hb4⟩; have KX1 := Lib.hid (show Below w.heap.size w X1 from KX.trans (Below.mono hb4 KX.size)); replace bk := boxed_nx bk hb4; replace bR := boxed_nx bR hb4; replace bA := bA.nx hb4; clear ck HBY)
            exact ⟨⟨keepsFrom_below hb4, Kb.below hb4⟩, bk, bR, by rw [cs9_next_no HR.out.symm]; exact bA, KX1.out⟩
          · have hx := hxk rfl
            have hx64 : x < 64 := by omega
            have hx2 : ¬ ((k : Int) ≤ (x : Int)) := by omega
            have hx3 : (x : Int) < 64 := by omega
            obtain ⟨c, hc⟩ : ∃ c, c = cs9 k z i x := ⟨_, rfl⟩
            have hc512 : c ≤ 512 := by rw [hc]; exact Nat.le_trans (cs9_le k z i x) hi9
            have hcx := arr_get (cs9 k z i) x hx64
            rw [← hc] at hcx
            have HC := Lib.hid hc
            clear hc
            gi_wp2_with (refine ⟨trivial, ?_⟩; gi_at_call 18; refine (CallsIn.inRound lr (callsIn_wide.2 (HBY.out _))).mono ?_; rintro e X1 ⟨rfl, hb4⟩; have KX1 := Lib.hid (show Below w.heap.size w X1 from KX.trans (Below.mono hb4 KX.size)); replace bk := boxed_nx bk hb4; replace bR := boxed_nx bR hb4; replace bA := bA.nx hb4; have ck2 := bk.cell; have cx := (bA.c x).trans hcx; have fx := bA.f x; clear ck HBY)
            have bA2 := bA.set x (.int .i64 ((c + 1 : Nat) : Int))
            rw [arr_set _ _ _ hx64] at bA2
            have ec : ((c + 1 : Nat) : Int) = (c : Int) + 1 := by omega
            rw [ec] at bA2
            have hne1 : G ≠ ga := by omega
            have hne2 : w.heap.size ≠ ga := by omega
            refine ⟨⟨(keepsFrom_below hb4).trans ⟨(grown_set X1 ga x _).size, fun k o hk ho _ => (Below.heap_setCell _ _ _ k (by simp; omega)).trans ho⟩, (Kb.below hb4).trans (Kb.grown (grown_set X1 ga x _) (fun r o e ho => by cases e; intro h; rcases h with h | h <;> omega))⟩, (Below.heap_setCell _ _ _ G hne1).trans bk, (Below.heap_setCell _ _ _ w.heap.size hne2).trans bR, ?_, KX1.out.setCell (p := ⟨ga, x, none⟩) (by simp; omega) _⟩
            rw [cs9_next_yes HR.out.symm, ← HC.out]
            exact bA2
        case done =>
          rintro D X hD ⟨bk, bR, bA, KX⟩ hK
          have bA : Bk X ga (arr (cs9 k z (2 ^ z))) 60 := bA
          have HX := Lib.hid (fun (x : Nat) (hx : x < k) => show X.cell? ⟨ga, x, none⟩ = some (.int .i64 (wt : Int)) from (bA.c x).trans ((arr_get _ x (by omega)).trans (by rw [cs9_end (by omega) hx, ← HWT.out])))
          have ck := bk.cell
          have cR := bR.cell
          have fR := bR.frozen
          gi_wp2_with fail
          refine wpIn_wide.2 ?_
          go_loopw [16] (fun s16 wr => ∃ i : Nat, s16 = .int .u64 (i : Int) ∧ i ≤ k ∧ wr = X) (fun v _ => k - (intOf v).toNat)
          case atStart => exact ⟨0, rfl, by omega, rfl⟩
          case round =>
            obtain ⟨i, rfl, hi, rfl⟩ := hrel
            by_cases hlt : i < k
            · have hlt2 : (i : Int) < (k : Int) := by omega
              have hlt3 : (i : Int) < 64 := by omega
              have cx := HX.out i hlt
              clear HX
              go_wp2_with fail
              go_roundw
              case rel => exact ⟨i + 1, by go_num, by omega, by trivial⟩
              case measure => simp [intOf]; omega
            · have hlt2 : ¬ ((i : Int) < (k : Int)) := by omega
              clear HX
              go_wp2_with fail
              gi_wp2_with fail
              have hRD : w.heap.size ≠ D := by omega
              have hK2 := (Below.heap_setCell wr ⟨w.heap.size, 0, none⟩ (.bool true) D (fun e => hRD e.symm)).trans hK
              have hY := (((Boxed.set (.bool true) bR).kept (grownBy_putObj' _ D (.deferred none)) (by simp; exact hRD))).cell
              have KY := KX.setCell (p := ⟨w.heap.size, 0, none⟩) (Nat.le_refl _) (.bool true)
              refine ⟨by simp, .inl ⟨_, _, rfl, run_takeDeferred hK2, ?_⟩⟩
        
              refine ⟨_, by simp [results, Try.results8, go_sem, hY], rfl, KY.grown (grownBy_putObj' _ D _) KY.size (fun k e => by cases e; omega)⟩

/-! ### THE ROW's STEP: WRITTEN OUT: LEAVE IT -/
set_option maxRecDepth 100000 in
theorem lifted (os : Os) (started : os.Started) (H : Type) (enc : TypeId × Value → H) :
    ReturnsInHanded {} Try.checked os 8 .any (Rows.belowSharesSpec.pre6 enc Try.prog Try.f8 Rows.belowSharesRow.domain false) (Rows.belowSharesSpec.post enc Try.prog Try.f8 false true false false) := by
  refine returnsInHanded_of_change (C := Try.checked) own started (by kernel_rfl) Try.func8
    (ChangeSpec.witness6 (enc := enc) (C := Try.checked) false ⟨#[], #[.int .u8 0, .int .u8 0], []⟩ 8 (by kernel_rfl) (by kernel_rfl) (by kernel_rfl) (by kernel_rfl)) ?_
  intro W base args ds gs before hval0 hW hcnd _
  have hval : ∀ (j : Nat) t v, Try.f8.params[j]? = some t → args[j]? = some v → Value.okWide Try.prog W .any base t v := hval0
  have hW' := hW
  obtain ⟨p, q, hA0, hV, rfl, hfz, hnd⟩ := hW
  have hA : DataW.TrodAll enc Try.prog W 0 (fun _ => true) true Try.f8.params.toList args.toList ds p := hA0
  rw [Try.params8] at hA hval
  obtain ⟨v0, vs0, d0, ds0, p0, q0, hargs, rfl, rfl, h0, r0⟩ := trodAll_cons hA
  obtain ⟨v1, vs1, d1, ds1, p1, q1, rfl, rfl, rfl, h1, r1⟩ := trodAll_cons r0
  obtain ⟨rfl, rfl, rfl⟩ := trodAll_nil r1
  obtain rfl : args = #[v0, v1] := by cases args; simp_all
  obtain ⟨rfl, rfl⟩ := trodVars_none hV
  obtain ⟨a0, rfl, rfl, rfl, w0⟩ := open_int Try.underlying5 (hval 0 5 v0 rfl rfl) h0
  obtain ⟨a1, rfl, rfl, rfl, w1⟩ := open_int Try.underlying5 (hval 1 5 v1 rfl rfl) h1
  clear hA0 hval0
  simp only [List.append_nil] at hW'
  refine (walk a0 a1 w0 w1 W).mono fun e W' ⟨he, hg⟩ => ?_
  subst he
  exact ⟨_, rfl, _, _, _, [], [], [], hW', (trodAll_cons_mk (shut_bool Try.underlying4 _) trodAll_mk0), (trodAll_cons_mk (shut_int Try.underlying5 w0) (trodAll_cons_mk (shut_int Try.underlying5 w1) trodAll_mk0)), rfl, hg.frame _, fun h => by cases h⟩

theorem over : Rows.belowSharesRow.holds Try.pinned (OpenSpec.ofChange Rows.belowSharesSpec) :=
  OpenClaim.holds_of_wide 8 Try.f8 rfl rfl rfl rfl rfl rfl rfl ⟨rfl, rfl, rfl, rfl, rfl⟩ rfl rfl rfl rfl rfl (by kernel_rfl) Try.func8 (by kernel_rfl)
    (of_decide_eq_true (by kernel_rfl)) (by unfold Func.isWrapper; first | (rw [if_pos (by decide +kernel)]; kernel_rfl) | (rw [if_neg (by decide +kernel)]; exact ⟨rfl, rfl⟩))
    (fun os started H enc _ => lifted os started H enc)

/-- ████ THE STATEMENT ████ -/
theorem proved : Rows.BelowSharesSaid :=
  over
#print axioms proved
end Go.Proofs.Ytelanfafgcnpmaa.belowShares
