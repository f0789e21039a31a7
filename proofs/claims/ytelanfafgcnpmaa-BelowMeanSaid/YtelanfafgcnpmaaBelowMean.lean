/- The statement BelowMean: of all strings of n bits the part by which more are needed is at most the cost over n, and the bits that are read, in the mean, are not above the cost. No condition. -/
import Derived.Test.YtelanfafgcnpmaaRows
import Derived.WalkKit
import Derived.ProofKit
import Derived.OpenShut
import Derived.Test.YtelanfafgcnpmaaBelR
import Derived.Deep.RegionHeld3
import Derived.Stop.RegionWithIn
import Derived.ShutString
import Derived.Below
namespace Go.Proofs.Ytelanfafgcnpmaa.belowMean
open Go.ChangeShapes Go.WideShapes Go.ChangeAt Go.RowKit
open Go.Proofs
open Go.ChangeMaps (open_string shut_string)
set_option linter.unusedVariables false      -- a walk need not use every 'w<i>' (that an integer argument fits its kind)

theorem own : ownKnob Try.prog.godebug = none := by kernel_rfl

open Go.Proofs.BL Go.Proofs.SL Go.Proofs.RA Go.Proofs.BT Go.Proofs.RO Go.Shelf
set_option linter.unusedSimpArgs false
attribute [local go_sem] Oper.semAt_some

/-! ### STEP 1: THE WALK: the Go text returns true. 'Grown w w'': the world has at most new blocks (Derived/RowKit3.lean). Part the cases AHEAD of 'go_enter' where a test parts the walk; take each callee by a contract of your own. -/
set_option maxHeartbeats 8000000 in
set_option maxRecDepth 100000 in
theorem walk (a0 : Int) (a1 : Int) (w0 : (Lit.int .u8 a0).wf = true) (w1 : (Lit.int .u8 a1).wf = true) (w : World) :
    Calls Try.prog 9 #[.int .u8 a0, .int .u8 a1] w fun e w' => e = .returned (.bool true) ∧ Below w.heap.size w w' := by
  have hbm := bounds_u8 w0
  have hbn := bounds_u8 w1
  obtain ⟨m, rfl⟩ : ∃ m : Nat, a0 = m := ⟨a0.toNat, by omega⟩
  obtain ⟨n, rfl⟩ : ∃ n : Nat, a1 = n := ⟨a1.toNat, by omega⟩
  obtain ⟨k, hk⟩ : ∃ k, k = m + 1 := ⟨_, rfl⟩
  obtain ⟨z, hz⟩ : ∃ z, z = n % 9 + 1 := ⟨_, rfl⟩
  have HE := Lib.hid (show ((m : Int) + 1 = (k : Int) ∧ 1 + (m : Int) = (k : Int)) ∧ 1 + (n : Int) % 9 = (z : Int) ∧ (n : Int) % 9 + 1 = (z : Int) by omega)
  have hk1 : 1 ≤ k ∧ k ≤ 256 := by omega
  have hz1 : 1 ≤ z ∧ z ≤ 9 := by omega
  clear hk hz
  refine (callsIn_wide (n := 12)).1 ?_
  refine callsIn_of_wp_marks Try.func9 rfl trivial ?_ rfl
  simp only [Try.ntmps9, List.size_toArray, List.length_cons, List.length_nil, Nat.reduceAdd, Nat.reduceSub, Array.replicate_succ, Array.replicate_zero, List.push_toArray, List.append_toArray, List.nil_append, List.cons_append]
  gi_wp2_with fail
  refine ⟨trivial, ?_⟩
  refine (callsIn_wide.2 (awake _)).mono ?_; rintro e w1 ⟨rfl, hb⟩
  have K := Lib.hid hb
  have hGw := hb.size
  clear hb
  gi_wp2_with fail
  obtain ⟨bk, bz, bm, br, hs⟩ := boxes4 w1 (.int .u64 (k : Int)) (.int .i64 (z : Int)) (.int .i64 0) (.int .i64 0) 22 3 2 2
  have KV : Kp w1 ((((w1.alloc (.cells #[.int .u64 (k : Int)] 22)).alloc (.cells #[.int .i64 (z : Int)] 3)).alloc (.cells #[.int .i64 0] 2)).alloc (.cells #[.int .i64 0] 2)) := ((((Kp.refl _).al _).al _).al _).al _
  obtain ⟨⟨ek1, ek2⟩, ez1, ez2⟩ := HE.out
  try simp only [ek1, ek2, ez1, ez2]
  clear ek1 ek2 ez1 ez2 HE
  generalize ((((w1.alloc (.cells #[.int .u64 (k : Int)] 22)).alloc (.cells #[.int .i64 (z : Int)] 3)).alloc (.cells #[.int .i64 0] 2)).alloc (.cells #[.int .i64 0] 2)) = V at *
  replace K := Lib.hid (Kp.nx K.out KV)
  obtain ⟨G, hG⟩ : ∃ G, w1.heap.size = G := ⟨_, rfl⟩
  rw [hG] at bk bz bm br hs
  simp only [hG]
  rw [hG] at hGw
  clear hG KV
  refine ⟨trivial, ?_⟩
  refine (callsIn_wide.2 (all_mk (z : Int) V)).mono ?_; rintro e V2 ⟨rfl, hV2⟩
  have KA : Kp V (V.alloc (.cells #[.int .i64 (z : Int)] 3)) := (Kp.refl _).al _
  rw [hV2] at KA
  have bA := Boxed.new V 3 (.int .i64 (z : Int))
  rw [hV2, hs] at bA
  have hs2 : V2.heap.size = G + 1 + 1 + 1 + 1 + 1 := by rw [← hV2, World.size_alloc, hs]
  replace bk := boxed_nx bk KA
  replace bz := boxed_nx bz KA
  replace bm := boxed_nx bm KA
  replace br := boxed_nx br KA
  replace K := Lib.hid (Kp.nx K.out KA)
  have cz := bz.cell
  clear hV2 KA
  gi_wp2_with fail
  try simp only [hs]
  clear hs
  clear cz
  refine rangeO rfl (by decide) (gf := 50) (lb := #[.pointer (some ⟨G + 1 + 1 + 1 + 1, 0, none⟩)]) rfl trivial (enters_of Try.func50 (by kernel_rfl) rfl)
    (all_seq _ (G + 1 + 1 + 1 + 1) z (2 ^ z) rfl V2 (by omega) (by omega) bA.cell) (Below.refl _ _) (fun l _ h1 h2 _ h => by rcases h with h | h <;> omega) (fun _ => rfl)
    (fun i X => Boxed X G 22 (.int .u64 (k : Int)) ∧ Boxed X (G + 1) 3 (.int .i64 (z : Int)) ∧ Boxed X (G + 1 + 1) 2 (.int .i64 ((sum (fun j => mo (dn k z j)) i : Nat) : Int)) ∧ Boxed X (G + 1 + 1 + 1) 2 (.int .i64 ((sum (fun j => rd z (dn k z j)) i : Nat) : Int)) ∧ Below w.heap.size w X)
    (fun _ _ _ => False)
    (OwnFrom.and (Own.from (boxed_own _ _ _) _) (OwnFrom.and (Own.from (boxed_own _ _ _) _) (OwnFrom.and (Own.from (boxed_own _ _ _) _) (OwnFrom.and (Own.from (boxed_own _ _ _) _) (ownFrom_below (Nat.le_refl _) (by omega))))))
    (fun _ _ _ _ _ hs _ _ => hs)
    ⟨bk, bz, bm, br, K.out⟩ ?round ?done ?stop
  case round =>
    clear bk bz bm br K
    intro lr i V0 hlr hi
    gi_wp2
    refine ⟨rfl, ?_⟩
    rintro X ⟨bk, bz, bm, br, KX⟩
    have hi9 : i ≤ 512 := by
      have : 2 ^ z ≤ 2 ^ 9 := Nat.pow_le_pow_right (by decide) hz1.2
      omega
    have ck := bk.cell
    obtain ⟨R, hR⟩ : ∃ R, R = dn k z i := ⟨_, rfl⟩
    have HB := Lib.hid (fun (W1 : World) => by1 (ofB i z) k W1 (by rw [ofB_size]; omega) (by omega) R (by rw [hR, byD_ofB (by omega) (by omega)]))
    have hat : R.at' ≤ z := by rw [hR]; exact dn_at
    obtain ⟨S1, hS1⟩ : ∃ S, S = sum (fun j => mo (dn k z j)) i := ⟨_, rfl⟩
    obtain ⟨S2, hS2⟩ : ∃ S, S = sum (fun j => rd z (dn k z j)) i := ⟨_, rfl⟩
    have b1 : S1 ≤ 512 := by rw [hS1]; have := sum_mo_le k z i; omega
    have b2 : S2 ≤ 5000 := by
      rw [hS2]
      have h1 := sum_rd_le k z i
      have h2 : i * z ≤ 512 * 9 := Nat.mul_le_mul hi9 hz1.2
      omega
    have HS1 := Lib.hid (show sum (fun j => mo (dn k z j)) (i + 1) = S1 + mo R by rw [hS1, hR]; rfl)
    have HS2 := Lib.hid (show sum (fun j => rd z (dn k z j)) (i + 1) = S2 + rd z R by rw [hS2, hR]; rfl)
    rw [← hS1] at bm
    rw [← hS2] at br
    clear hS1 hS2 hR
    obtain ⟨x, is, t, ov⟩ := R
    simp only at hat HB
    cases is
    all_goals
      gi_wp2_with (refine ⟨trivial, ?_⟩; gi_at_call 18; refine (CallsIn.inRound lr (callsIn_wide.2 (HB.out _))).mono ?_; rintro e X1 ⟨rfl, hb4⟩; have KX1 := Lib.hid (show Below w.heap.size w X1 from KX.trans (Below.mono hb4 KX.size)); replace bk := boxed_nx bk hb4; replace bz := boxed_nx bz hb4; replace bm := boxed_nx bm hb4; replace br := boxed_nx br hb4; have cz := bz.cell; have cm := bm.cell; have cr := br.cell; have fm := bm.frozen; have fr := br.frozen; clear ck HB)
    · have u1 := Boxed.set (.int .i64 ((S1 : Int) + 1)) bm
      have u2 := br.other (B' := G + 1 + 1) (by omega) (.int .i64 ((S1 : Int) + 1))
      have u3 := Boxed.set (.int .i64 ((S2 : Int) + (z : Int))) u2
      refine ⟨⟨(keepsFrom_below hb4).trans (((KeepsOthers.setCell _ _ _).from _).trans ((KeepsOthers.setCell _ _ _).from _)), ((Kb.below hb4).trans (Kb.grown (grownBy_setCell' X1 (G + 1 + 1) _) (fun r o e ho => by cases e; intro h; rcases h with h | h <;> omega))).trans (Kb.grown (grownBy_setCell' _ (G + 1 + 1 + 1) _) (fun r o e ho => by cases e; intro h; rcases h with h | h <;> omega))⟩, ?_, ?_, ?_, ?_, ?_⟩
      · exact (bk.other (by omega) _).other (by omega) _
      · exact (bz.other (by omega) _).other (by omega) _
      · rw [HS1.out, show mo ⟨x, false, t, ov⟩ = 1 from rfl, show ((S1 + 1 : Nat) : Int) = (S1 : Int) + 1 by omega]
        exact u1.other (by omega) _
      · rw [HS2.out, show rd z ⟨x, false, t, ov⟩ = z from rfl, show ((S2 + z : Nat) : Int) = (S2 : Int) + (z : Int) by omega]
        exact u3
      · exact (KX1.out.setCell (p := ⟨G + 1 + 1, 0, none⟩) (by simp; omega) _).setCell (p := ⟨G + 1 + 1 + 1, 0, none⟩) (by simp; omega) _
    · have u3 := Boxed.set (.int .i64 ((S2 : Int) + (t : Int))) br
      refine ⟨⟨(keepsFrom_below hb4).trans ((KeepsOthers.setCell _ _ _).from _), (Kb.below hb4).trans (Kb.grown (grownBy_setCell' X1 (G + 1 + 1 + 1) _) (fun r o e ho => by cases e; intro h; rcases h with h | h <;> omega))⟩, ?_, ?_, ?_, ?_, ?_⟩
      · exact bk.other (by omega) _
      · exact bz.other (by omega) _
      · rw [HS1.out, show mo ⟨x, true, t, ov⟩ = 0 from rfl, Nat.add_zero]
        exact bm.other (by omega) _
      · rw [HS2.out, show rd z ⟨x, true, t, ov⟩ = t from rfl, show ((S2 + t : Nat) : Int) = (S2 : Int) + (t : Int) by omega]
        exact u3
      · exact KX1.out.setCell (p := ⟨G + 1 + 1 + 1, 0, none⟩) (by simp; omega) _
  case done =>
    rintro D X hD ⟨bk, bz, bm, br, KX⟩ hK
    have hX := (Array.getElem?_eq_some_iff.1 hK).1
    obtain ⟨A1, hA1⟩ : ∃ A, A = sum (fun j => mo (dn k z j)) (2 ^ z) * z := ⟨_, rfl⟩
    obtain ⟨S1, hS1⟩ : ∃ S, S = sum (fun j => mo (dn k z j)) (2 ^ z) := ⟨_, rfl⟩
    obtain ⟨S2, hS2⟩ : ∃ S, S = sum (fun j => rd z (dn k z j)) (2 ^ z) := ⟨_, rfl⟩
    have hz9 : 2 ^ z ≤ 2 ^ 9 := Nat.pow_le_pow_right (by decide) hz1.2
    have hz0 := Nat.two_pow_pos z
    have b1 : S1 ≤ 512 := by rw [hS1]; have := sum_mo_le k z (2 ^ z); omega
    have b2 : S2 ≤ 5000 := by
      rw [hS2]
      have h1 := sum_rd_le k z (2 ^ z)
      have h2 : 2 ^ z * z ≤ 512 * 9 := Nat.mul_le_mul hz9 hz1.2
      omega
    have m1 := more_le k z
    have m2 := mean_le (m := k) (by omega) z
    rw [← hS1] at bm m1 hA1
    rw [← hS2] at br m1 m2
    have b3 : A1 ≤ 512 * 9 := by rw [hA1]; exact Nat.mul_le_mul b1 hz1.2
    have m3 : A1 * k ≤ wid k * 2 ^ wid k * 2 ^ z := by
      rw [hA1]
      exact Nat.le_trans (Nat.mul_le_mul_right _ m1) m2
    obtain ⟨us, hus⟩ : ∃ s, s = L (A1 / Nat.gcd A1 (2 ^ z)) := ⟨_, rfl⟩
    obtain ⟨vs, hvs⟩ : ∃ s, s = L (2 ^ z / Nat.gcd A1 (2 ^ z)) := ⟨_, rfl⟩
    obtain ⟨us', hus'⟩ : ∃ s, s = L (S2 / Nat.gcd S2 (2 ^ z)) := ⟨_, rfl⟩
    obtain ⟨vs', hvs'⟩ : ∃ s, s = L (2 ^ z / Nat.gcd S2 (2 ^ z)) := ⟨_, rfl⟩
    obtain ⟨ps, hps⟩ : ∃ s, s = L (cN k / Nat.gcd (cN k) k) := ⟨_, rfl⟩
    obtain ⟨qs, hqs⟩ : ∃ s, s = L (k / Nat.gcd (cN k) k) := ⟨_, rfl⟩
    obtain ⟨c1, hc1, HP1⟩ := mean_cmp hk1.1 hk1.2 hz1.2 (by omega) m3 hus hvs hps hqs
    obtain ⟨c2, hc2, HP2⟩ := mean_cmp hk1.1 hk1.2 hz1.2 (by omega) m2 hus' hvs' hps hqs
    have HP1 := Lib.hid HP1
    have HP2 := Lib.hid HP2
    obtain ⟨Z, hZ⟩ : ∃ Z, Z = 2 ^ z := ⟨_, rfl⟩
    rw [← hZ] at hus hvs hus' hvs' hz9 hz0
    have HC := Lib.hid (fun (W : World) => cost1 (us := ps) (vs := qs) k W (by omega) (by omega) hps hqs)
    have HO1 := Lib.hid (fun (W : World) => rover (us := us) (vs := vs) A1 Z W (by omega) (by omega) (by omega) hus hvs)
    have HO2 := Lib.hid (fun (W : World) => rover (us := us') (vs := vs') S2 Z W (by omega) (by omega) (by omega) hus' hvs')
    have HZ := Lib.hid hZ
    have HA1 := Lib.hid hA1
    clear hS1 hS2 hus hvs hus' hvs' hps hqs m1 m2 m3 hZ hA1
    have ck := bk.cell
    gi_wp2_with fail
    clear ck
    refine ⟨trivial, ?_⟩
    refine (callsIn_wide.2 (HC.out _)).mono ?_; rintro e Xa ⟨p1, e1, q1, d1, rfl, ho1, ho2, hb⟩
    have RV1 := Lib.hid (RatV.new ho1.rd ho2.rd)
    have KA := Kp.nx hb ((Kp.refl _).al (.cells #[.bool false, .slice p1 ps.length e1, .slice q1 qs.length d1] 28))
    replace bk := boxed_nx bk KA
    replace bz := boxed_nx bz KA
    replace bm := boxed_nx bm KA
    replace br := boxed_nx br KA
    replace hK := (KA.block D (Array.getElem?_eq_some_iff.1 hK).1).trans hK
    replace KX := KX.trans (Below.mono KA KX.size)
    clear HC ho1 ho2 hb KA
    have cz := bz.cell
    have cm := bm.cell
    gi_wp2_with fail
    obtain ⟨Y, hY⟩ : ∃ Y, Xa.alloc (.cells #[.bool false, .slice p1 ps.length e1, .slice q1 qs.length d1] 28) = Y := ⟨_, rfl⟩
    rw [hY] at bk bz bm br hK KX cz cm RV1 ⊢
    have hg1 : Hid (Xa.heap.size < Y.heap.size) := Lib.hid (by rw [← hY]; simp)
    obtain ⟨g1, hg1'⟩ : ∃ g, Xa.heap.size = g := ⟨_, rfl⟩
    rw [hg1'] at hg1 RV1
    simp only [hg1']
    clear hY hg1'
    have hsh : IntKind.i64.wrap ((1 : Int) * 2 ^ z) = (Z : Int) := by
      have h1 : (2 : Int) ^ z = ((2 ^ z : Nat) : Int) := by simp
      rw [Int.one_mul, h1, ← HZ.out, IntKind.wrap_i64]; omega
    have hsh2 : IntKind.i64.wrap ((2 : Int) ^ z) = (Z : Int) := by
      have h1 : (2 : Int) ^ z = ((2 ^ z : Nat) : Int) := by simp
      rw [h1, ← HZ.out, IntKind.wrap_i64]; omega
    have hmu : IntKind.i64.wrap ((S1 : Int) * (z : Int)) = (A1 : Int) := by
      rw [← Int.natCast_mul, ← HA1.out, IntKind.wrap_i64]; omega
    have cza := (bz.alloc (.cells #[.bool false, .slice none 0 0, .slice none 0 0] 28)).cell
    clear cza
    have HV := Lib.hid (fun (W' : World) (hk : Kp Y W') => show W'.cell? ⟨G + 1, 0, none⟩ = some (.int .i64 (z : Int)) ∧ W'.cell? ⟨G + 1 + 1, 0, none⟩ = some (.int .i64 (S1 : Int)) from ⟨(boxed_nx bz hk).cell, (boxed_nx bm hk).cell⟩)
    apply wpIn_rat (Fa := fun w' g p q c d => Kp Y w' ∧ Y.heap.size ≤ g ∧ RatV w' g p q c d us vs)
    case h =>
      intro K KEY
      refine wpIn_wide.2 ?_
      go_region_held3 (fun W => W.cell? ⟨G + 1, 0, none⟩ = some (.int .i64 (z : Int)) ∧ W.cell? ⟨G + 1 + 1, 0, none⟩ = some (.int .i64 (S1 : Int)))
        (first
          | exact HV.out _ (Kp.refl _)
          | exact HV.out _ (Kp.refl _).dr1
          | exact HV.out _ (Kp.al (Kp.refl _).dr1 (.cells #[.bool false, .slice none 0 0, .slice none 0 0] 28))
          | exact HV.out _ ((Kp.refl _).al (.cells #[.bool false, .slice none 0 0, .slice none 0 0] 28)).dr1
          | exact HV.out _ kY
          | exact HV.out _ (Kp.al kY (.cells #[.bool false, .slice none 0 0, .slice none 0 0] 28))
          | exact HV.out _ (Kp.al kY (.cells #[.bool false, .slice p2 us.length e2, .slice q2 vs.length d2] 28))
          | exact HS)
        (first
          | (go_at_call 28; (with_reducible refine (HO1.out Y.drew).mono ?_); rintro e Wb ⟨p2, e2, q2, d2, rfl, ho3, ho4, hb3⟩; have mk1 := hb3; have kY : Kp Y Wb := Kp.nx (Kp.refl Y).dr1 hb3)
          | (go_at_call 28; (with_reducible refine (HO1.out ((Y.alloc (.cells #[.bool false, .slice none 0 0, .slice none 0 0] 28)).drew)).mono ?_); rintro e Wb ⟨p2, e2, q2, d2, rfl, ho3, ho4, hb3⟩; have mk2 := hb3; have BM := (Bk.new Y #[.bool false, .slice none 0 0, .slice none 0 0] 28).nx (Kp.refl _).dr1; have kY : Kp Y Wb := Kp.nx ((Kp.refl Y).al (.cells #[.bool false, .slice none 0 0, .slice none 0 0] 28)).dr1 hb3; have B9 := BM.nx hb3; have f0 := B9.f 0; have f1 := B9.f 1; have f2 := B9.f 2; have r0 := B9.c 0; have r1 := B9.c 1; have r2 := B9.c 2; have x1 := B9.put3 (.bool false) (.slice p2 us.length e2) (.slice q2 vs.length d2); have x2 := (ho3.put3 BM.lt (.bool false) (.slice p2 us.length e2) (.slice q2 vs.length d2)).rd; have x3 := (ho4.put3 BM.lt (.bool false) (.slice p2 us.length e2) (.slice q2 vs.length d2)).rd; have x4 := Kp.put3 kY (Nat.le_refl _) (.bool false) (.slice p2 us.length e2) (.slice q2 vs.length d2); have HS := HV.out _ x4; unfold RA.put3 at x1 x2 x3 x4 HS)
          | (go_at_call 28; (with_reducible refine (HO1.out (Y.drew.alloc (.cells #[.bool false, .slice none 0 0, .slice none 0 0] 28))).mono ?_); rintro e Wb ⟨p2, e2, q2, d2, rfl, ho3, ho4, hb3⟩; have mk3 := hb3; have BM := (Bk.new Y.drew #[.bool false, .slice none 0 0, .slice none 0 0] 28); have kY : Kp Y Wb := Kp.nx ((Kp.refl Y).dr1.al (.cells #[.bool false, .slice none 0 0, .slice none 0 0] 28)) hb3; have B9 := BM.nx hb3; have f0 := B9.f 0; have f1 := B9.f 1; have f2 := B9.f 2; have r0 := B9.c 0; have r1 := B9.c 1; have r2 := B9.c 2; have x1 := B9.put3 (.bool false) (.slice p2 us.length e2) (.slice q2 vs.length d2); have x2 := (ho3.put3 BM.lt (.bool false) (.slice p2 us.length e2) (.slice q2 vs.length d2)).rd; have x3 := (ho4.put3 BM.lt (.bool false) (.slice p2 us.length e2) (.slice q2 vs.length d2)).rd; have x4 := Kp.put3 kY (Nat.le_refl _) (.bool false) (.slice p2 us.length e2) (.slice q2 vs.length d2); have HS := HV.out _ x4; unfold RA.put3 at x1 x2 x3 x4 HS))
      all_goals try dsimp only [only]
      all_goals try go_simp
      all_goals
        first
          | (have hcase := mk1; obtain ⟨gg, hgg⟩ : ∃ g, Wb.heap.size = g := ⟨_, rfl⟩; have RV := RatV.new ho3.rd ho4.rd; rw [hgg] at RV; have hle := kY.size; rw [hgg] at hle; simp only [hgg]; exact KEY.out _ gg p2 q2 e2 d2 ⟨Kp.nx kY ((Kp.refl _).al _), hle, RV⟩)
          | (have hcase := mk3; clear HS; generalize (((Wb.setCell ⟨Y.heap.size, 0, none⟩ (.bool false)).setCell ⟨Y.heap.size, 1, none⟩ (.slice p2 us.length e2)).setCell ⟨Y.heap.size, 2, none⟩ (.slice q2 vs.length d2)) = Wc at *; obtain ⟨gg, hgg⟩ : ∃ g, Y.heap.size = g := ⟨_, rfl⟩; have hle : Y.heap.size ≤ gg := (by omega); rw [hgg] at x1; simp only [hgg]; exact KEY.out _ gg p2 q2 e2 d2 ⟨x4, hle, ⟨x1, x2, x3⟩⟩)
          | (have hcase := mk2; clear HS; generalize (((Wb.setCell ⟨Y.heap.size, 0, none⟩ (.bool false)).setCell ⟨Y.heap.size, 1, none⟩ (.slice p2 us.length e2)).setCell ⟨Y.heap.size, 2, none⟩ (.slice q2 vs.length d2)) = Wc at *; obtain ⟨gg, hgg⟩ : ∃ g, Y.heap.size = g := ⟨_, rfl⟩; have hle : Y.heap.size ≤ gg := (by omega); rw [hgg] at x1; simp only [hgg]; exact KEY.out _ gg p2 q2 e2 d2 ⟨x4, hle, ⟨x1, x2, x3⟩⟩)
    case rest =>
    intro Y2 g2 p2 q2 e2 d2 HY
    obtain ⟨kY, hle, RW⟩ := HY
    have RV2 := Lib.hid RW
    replace RV1 := Lib.hid (RV1.out.nx kY)
    replace bz := boxed_nx bz kY
    replace br := boxed_nx br kY
    replace hK := (kY.block D (Array.getElem?_eq_some_iff.1 hK).1).trans hK
    replace KX := KX.trans (Below.mono kY KX.size)
    clear kY hle RW HO1 cz cm HV
    clear bm
    have cz := bz.cell
    have cr := br.cell
    gi_wp2_with fail
    have HV := Lib.hid (fun (W' : World) (hk : Kp Y2 W') => show W'.cell? ⟨G + 1, 0, none⟩ = some (.int .i64 (z : Int)) ∧ W'.cell? ⟨G + 1 + 1 + 1, 0, none⟩ = some (.int .i64 (S2 : Int)) from ⟨(boxed_nx bz hk).cell, (boxed_nx br hk).cell⟩)
    apply wpIn_rat (Fa := fun w' g p q c d => Kp Y2 w' ∧ Y2.heap.size ≤ g ∧ RatV w' g p q c d us' vs')
    case h =>
      intro K KEY
      refine wpIn_wide.2 ?_
      go_region_held3 (fun W => W.cell? ⟨G + 1, 0, none⟩ = some (.int .i64 (z : Int)) ∧ W.cell? ⟨G + 1 + 1 + 1, 0, none⟩ = some (.int .i64 (S2 : Int)))
        (first
          | exact HV.out _ (Kp.refl _)
          | exact HV.out _ (Kp.refl _).dr1
          | exact HV.out _ (Kp.al (Kp.refl _).dr1 (.cells #[.bool false, .slice none 0 0, .slice none 0 0] 28))
          | exact HV.out _ ((Kp.refl _).al (.cells #[.bool false, .slice none 0 0, .slice none 0 0] 28)).dr1
          | exact HV.out _ kY
          | exact HV.out _ (Kp.al kY (.cells #[.bool false, .slice none 0 0, .slice none 0 0] 28))
          | exact HV.out _ (Kp.al kY (.cells #[.bool false, .slice p3 us'.length e3, .slice q3 vs'.length d3] 28))
          | exact HS)
        (first
          | (go_at_call 28; (with_reducible refine (HO2.out Y2.drew).mono ?_); rintro e Wb ⟨p3, e3, q3, d3, rfl, ho3, ho4, hb3⟩; have mk1 := hb3; have kY : Kp Y2 Wb := Kp.nx (Kp.refl Y2).dr1 hb3)
          | (go_at_call 28; (with_reducible refine (HO2.out ((Y2.alloc (.cells #[.bool false, .slice none 0 0, .slice none 0 0] 28)).drew)).mono ?_); rintro e Wb ⟨p3, e3, q3, d3, rfl, ho3, ho4, hb3⟩; have mk2 := hb3; have BM := (Bk.new Y2 #[.bool false, .slice none 0 0, .slice none 0 0] 28).nx (Kp.refl _).dr1; have kY : Kp Y2 Wb := Kp.nx ((Kp.refl Y2).al (.cells #[.bool false, .slice none 0 0, .slice none 0 0] 28)).dr1 hb3; have B9 := BM.nx hb3; have f0 := B9.f 0; have f1 := B9.f 1; have f2 := B9.f 2; have r0 := B9.c 0; have r1 := B9.c 1; have r2 := B9.c 2; have x1 := B9.put3 (.bool false) (.slice p3 us'.length e3) (.slice q3 vs'.length d3); have x2 := (ho3.put3 BM.lt (.bool false) (.slice p3 us'.length e3) (.slice q3 vs'.length d3)).rd; have x3 := (ho4.put3 BM.lt (.bool false) (.slice p3 us'.length e3) (.slice q3 vs'.length d3)).rd; have x4 := Kp.put3 kY (Nat.le_refl _) (.bool false) (.slice p3 us'.length e3) (.slice q3 vs'.length d3); have HS := HV.out _ x4; unfold RA.put3 at x1 x2 x3 x4 HS)
          | (go_at_call 28; (with_reducible refine (HO2.out (Y2.drew.alloc (.cells #[.bool false, .slice none 0 0, .slice none 0 0] 28))).mono ?_); rintro e Wb ⟨p3, e3, q3, d3, rfl, ho3, ho4, hb3⟩; have mk3 := hb3; have BM := (Bk.new Y2.drew #[.bool false, .slice none 0 0, .slice none 0 0] 28); have kY : Kp Y2 Wb := Kp.nx ((Kp.refl Y2).dr1.al (.cells #[.bool false, .slice none 0 0, .slice none 0 0] 28)) hb3; have B9 := BM.nx hb3; have f0 := B9.f 0; have f1 := B9.f 1; have f2 := B9.f 2; have r0 := B9.c 0; have r1 := B9.c 1; have r2 := B9.c 2; have x1 := B9.put3 (.bool false) (.slice p3 us'.length e3) (.slice q3 vs'.length d3); have x2 := (ho3.put3 BM.lt (.bool false) (.slice p3 us'.length e3) (.slice q3 vs'.length d3)).rd; have x3 := (ho4.put3 BM.lt (.bool false) (.slice p3 us'.length e3) (.slice q3 vs'.length d3)).rd; have x4 := Kp.put3 kY (Nat.le_refl _) (.bool false) (.slice p3 us'.length e3) (.slice q3 vs'.length d3); have HS := HV.out _ x4; unfold RA.put3 at x1 x2 x3 x4 HS))
      all_goals try dsimp only [only]
      all_goals try go_simp
      all_goals
        first
          | (have hcase := mk1; obtain ⟨gg, hgg⟩ : ∃ g, Wb.heap.size = g := ⟨_, rfl⟩; have RV := RatV.new ho3.rd ho4.rd; rw [hgg] at RV; have hle := kY.size; rw [hgg] at hle; simp only [hgg]; exact KEY.out _ gg p3 q3 e3 d3 ⟨Kp.nx kY ((Kp.refl _).al _), hle, RV⟩)
          | (have hcase := mk3; clear HS; generalize (((Wb.setCell ⟨Y2.heap.size, 0, none⟩ (.bool false)).setCell ⟨Y2.heap.size, 1, none⟩ (.slice p3 us'.length e3)).setCell ⟨Y2.heap.size, 2, none⟩ (.slice q3 vs'.length d3)) = Wc at *; obtain ⟨gg, hgg⟩ : ∃ g, Y2.heap.size = g := ⟨_, rfl⟩; have hle : Y2.heap.size ≤ gg := (by omega); rw [hgg] at x1; simp only [hgg]; exact KEY.out _ gg p3 q3 e3 d3 ⟨x4, hle, ⟨x1, x2, x3⟩⟩)
          | (have hcase := mk2; clear HS; generalize (((Wb.setCell ⟨Y2.heap.size, 0, none⟩ (.bool false)).setCell ⟨Y2.heap.size, 1, none⟩ (.slice p3 us'.length e3)).setCell ⟨Y2.heap.size, 2, none⟩ (.slice q3 vs'.length d3)) = Wc at *; obtain ⟨gg, hgg⟩ : ∃ g, Y2.heap.size = g := ⟨_, rfl⟩; have hle : Y2.heap.size ≤ gg := (by omega); rw [hgg] at x1; simp only [hgg]; exact KEY.out _ gg p3 q3 e3 d3 ⟨x4, hle, ⟨x1, x2, x3⟩⟩)
    case rest =>
    intro Y3 g3 p3 q3 e3 d3 HY
    obtain ⟨kY, hle, RW⟩ := HY
    have RV3 := Lib.hid RW
    replace RV1 := Lib.hid (RV1.out.nx kY)
    replace RV2 := Lib.hid (RV2.out.nx kY)
    replace bz := boxed_nx bz kY
    replace br := boxed_nx br kY
    replace hK := (kY.block D (Array.getElem?_eq_some_iff.1 hK).1).trans hK
    replace KX := KX.trans (Below.mono kY KX.size)
    clear kY hle RW HO2 cz cr HV
    clear bz br
    obtain ⟨y0, y1, y2⟩ := RV1.out.cs
    obtain ⟨z0, z1, z2⟩ := RV2.out.cs
    gi_wp2_with fail
    refine ⟨trivial, ?_⟩
    refine (callsIn_wide.2 (HP1.out _ p2 q2 p1 q1 e2 d2 e1 d1 RV2.out.ru RV2.out.rv RV1.out.ru RV1.out.rv)).mono ?_; rintro e Wd ⟨rfl, hb⟩
    replace RV1 := Lib.hid (RV1.out.nx hb)
    replace RV3 := Lib.hid (RV3.out.nx hb)
    replace hK := (Below.block hb D (Array.getElem?_eq_some_iff.1 hK).1).trans hK
    replace KX := KX.trans (Below.mono hb KX.size)
    clear HP1 hb y0 y1 y2 z0 z1 z2 RV2
    obtain ⟨y0, y1, y2⟩ := RV1.out.cs
    obtain ⟨z0, z1, z2⟩ := RV3.out.cs
    gi_wp2_with fail
    refine ⟨trivial, ?_⟩
    refine (callsIn_wide.2 (HP2.out _ p3 q3 p1 q1 e3 d3 e1 d1 RV3.out.ru RV3.out.rv RV1.out.ru RV1.out.rv)).mono ?_; rintro e We ⟨rfl, hb⟩
    replace hK := (Below.block hb D (Array.getElem?_eq_some_iff.1 hK).1).trans hK
    replace KX := KX.trans (Below.mono hb KX.size)
    clear HP2 hb y0 y1 y2 z0 z1 z2 RV1 RV3
    gi_wp2_with fail
    refine ⟨by simp, .inl ⟨_, _, rfl, run_takeDeferred hK, ?_⟩⟩
    refine ⟨_, results_tmp rfl _ _ _, rfl, KX.grown (grownBy_putObj' _ D _) KX.size (fun k e => by cases e; omega)⟩
  case stop =>
    rintro D c k X hD hk h hK
    exact h.elim

/-! ### THE ROW's STEP: WRITTEN OUT: LEAVE IT -/
set_option maxRecDepth 100000 in
theorem lifted (os : Os) (started : os.Started) (H : Type) (enc : TypeId × Value → H) :
    ReturnsInHanded {} Try.checked os 9 .any (Rows.belowMeanSpec.pre6 enc Try.prog Try.f9 Rows.belowMeanRow.domain false) (Rows.belowMeanSpec.post enc Try.prog Try.f9 false true false false) := by
  refine returnsInHanded_of_change (C := Try.checked) own started (by kernel_rfl) Try.func9
    (ChangeSpec.witness6 (enc := enc) (C := Try.checked) false ⟨#[], #[.int .u8 0, .int .u8 0], []⟩ 8 (by kernel_rfl) (by kernel_rfl) (by kernel_rfl) (by kernel_rfl)) ?_
  intro W base args ds gs before hval0 hW hcnd _
  have hval : ∀ (j : Nat) t v, Try.f9.params[j]? = some t → args[j]? = some v → Value.okWide Try.prog W .any base t v := hval0
  have hW' := hW
  obtain ⟨p, q, hA0, hV, rfl, hfz, hnd⟩ := hW
  have hA : DataW.TrodAll enc Try.prog W 0 (fun _ => true) true Try.f9.params.toList args.toList ds p := hA0
  rw [Try.params9] at hA hval
  obtain ⟨v0, vs0, d0, ds0, p0, q0, hargs, rfl, rfl, h0, r0⟩ := trodAll_cons hA
  obtain ⟨v1, vs1, d1, ds1, p1, q1, rfl, rfl, rfl, h1, r1⟩ := trodAll_cons r0
  obtain ⟨rfl, rfl, rfl⟩ := trodAll_nil r1
  obtain rfl : args = #[v0, v1] := by cases args; simp_all
  obtain ⟨rfl, rfl⟩ := trodVars_none hV
  obtain ⟨a0, rfl, rfl, rfl, w0⟩ := open_int Try.underlying5 (hval 0 5 v0 rfl rfl) h0
  obtain ⟨a1, rfl, rfl, rfl, w1⟩ := open_int Try.underlying5 (hval 1 5 v1 rfl rfl) h1
  clear hA0 hval0
  simp only [List.append_nil] at hW'
  refine (walk a0 a1 w0 w1 W).mono fun e W' ⟨he, hg⟩ => ?_
  subst he
  exact ⟨_, rfl, _, _, _, [], [], [], hW', (trodAll_cons_mk (shut_bool Try.underlying4 _) trodAll_mk0), (trodAll_cons_mk (shut_int Try.underlying5 w0) (trodAll_cons_mk (shut_int Try.underlying5 w1) trodAll_mk0)), rfl, hg.frame _, fun h => by cases h⟩

theorem over : Rows.belowMeanRow.holds Try.pinned (OpenSpec.ofChange Rows.belowMeanSpec) :=
  OpenClaim.holds_of_wide 9 Try.f9 rfl rfl rfl rfl rfl rfl rfl ⟨rfl, rfl, rfl, rfl, rfl⟩ rfl rfl rfl rfl rfl (by kernel_rfl) Try.func9 (by kernel_rfl)
    (of_decide_eq_true (by kernel_rfl)) (by unfold Func.isWrapper; first | (rw [if_pos (by decide +kernel)]; kernel_rfl) | (rw [if_neg (by decide +kernel)]; exact ⟨rfl, rfl⟩))
    (fun os started H enc _ => lifted os started H enc)

/-- ████ THE STATEMENT ████ -/
theorem proved : Rows.BelowMeanSaid :=
  over
#print axioms proved
end Go.Proofs.Ytelanfafgcnpmaa.belowMean
