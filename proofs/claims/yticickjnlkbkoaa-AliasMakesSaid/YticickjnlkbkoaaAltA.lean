/- Alias tables: the document's share of a place. -/
import Derived.Test.YticickjnlkbkoaaAliV
import Derived.Test.YticickjnlkbkoaaAliZ
import Derived.Test.YticickjnlkbkoaaRatN
import Derived.Deep.RegionHeld3
namespace Go.Proofs.AL
open Go.RowKit
open Go.Proofs
open Go.Proofs.NP
open Go.Proofs.SL
open Go.Proofs.RA
open Go
set_option linter.unusedVariables false
set_option linter.unusedSimpArgs false
set_option maxRecDepth 20000
variable {w : World} {g gc cc go co n : Nat} {cu ot : Nat → Int} {us vs ps qs : List Nat}
/-- ways that come to the same state go on as one: a box that holds a fraction -/
theorem joinQ {goal : Prop} (F G : World → Nat → Option Addr → Nat → Option Addr → Nat → Prop) (h : (∀ W g p d q e, F W g p d q e → G W g p d q e) → goal) (key : ∀ W g p d q e, F W g p d q e → G W g p d q e) : goal := h key
set_option maxHeartbeats 8000000 in
theorem rshare (S i M : Nat) (h : Tr w g gc cc go co n (S : Int) cu ot) (hn : 1 ≤ n ∧ n ≤ 64) (hi : i < n) (hS : 1 ≤ S ∧ S ≤ 67108864) (hcu : ∀ k, k < n → 0 ≤ cu k ∧ cu k ≤ S) (hM : (M : Int) = mny S cu ot i n)
    (hu : us = L (M / Nat.gcd M (S * n))) (hv : vs = L (S * n / Nat.gcd M (S * n))) :
    Calls Try.prog 21 #[.pointer (some ⟨g, 0, none⟩), .int .i64 (i : Int)] w (GivesR1 w us vs) := by
  obtain ⟨Q, hQ⟩ : ∃ Q, Q = S * n := ⟨_, rfl⟩
  have hQb : Q ≤ 67108864 * 64 := by rw [hQ]; exact Nat.mul_le_mul hS.2 hn.2
  have hQ0 : 0 < Q := by rw [hQ]; exact Nat.mul_pos (by omega) (by omega)
  have hQI : (n : Int) * (S : Int) = (Q : Int) := by rw [hQ, Int.natCast_mul, Int.mul_comm]
  have hQw : IntKind.i64.wrap (Q : Int) = (Q : Int) := by rw [IntKind.wrap_i64]; omega
  rw [← hQ] at hu hv
  have hMb := mny_bd (ot := ot) hcu (i := i) n (Nat.le_refl _)
  have hMb2 : M ≤ 64 * (2 * 67108864) := by
    have h1 : (n : Int) * (2 * (S : Int)) ≤ 64 * (2 * 67108864) := Int.mul_le_mul (by omega) (by omega) (by omega) (by omega)
    omega
  have HO := Lib.hid (fun W => fover (us := us) (vs := vs) M Q W (by omega) (by omega) (by omega) hu hv)
  have R0 := Lib.hid (Rs.new w #[.bool false, .slice none 0 0, .slice none 0 0] 42)
  have hgl := h.tb.lt
  have HT := Lib.hid (h.nx ((Kp.refl w).al (.cells #[.bool false, .slice none 0 0, .slice none 0 0] 42)))
  have HCU := Lib.hid hcu
  have HM := Lib.hid hM
  clear hQ hu hv hM hMb hcu h
  have hi2 : (i : Int) < (n : Int) := by omega
  go_enter Try.func21, Try.ntmps21
  go_wp2_with fail
  generalize (w.alloc (.cells #[.bool false, .slice none 0 0, .slice none 0 0] 42)) = W0 at *
  go_loopw [5, 6] (fun s5 s6 wr => ∃ k : Nat, s6 = .int .i64 (k : Int) ∧ k ≤ n ∧ s5 = .int .i64 (mny S cu ot i k) ∧ Hid (Kp W0 wr)) (fun _ v _ => n - (intOf v).toNat)
  case atStart => exact ⟨0, rfl, by omega, rfl, Lib.hid (Kp.refl _)⟩
  case round =>
    obtain ⟨k, rfl, hk, rfl, K⟩ := hrel
    have HTk := Lib.hid (HT.out.nx K.out)
    by_cases hlt : k < n
    · have hlt2 : (k : Int) < (n : Int) := by omega
      have hb1 := mny_bd (ot := ot) HCU.out (i := i) k (by omega)
      have hb2 : (k : Int) * (2 * (S : Int)) ≤ 64 * (2 * 67108864) := Int.mul_le_mul (by omega) (by omega) (by omega) (by omega)
      have hb3 := HCU.out k hlt
      have HU := Lib.hid (show mny S cu ot i (k + 1) = mny S cu ot i k + (if k = i then cu k else 0) + (if ot k = i then S - cu k else 0) from rfl)
      obtain ⟨c0, c1⟩ := Bk.lits2 HTk.out.tb
      have c2 := HTk.out.tb.c 2
      have ck := HTk.out.cs k hlt
      have ok := HTk.out.os k hlt
      generalize mny S cu ot i k = m at *
      generalize cu k = x at *
      generalize ot k = o at *
      have hm : 0 ≤ m ∧ m ≤ 64 * (2 * 67108864) := by omega
      clear hb1 hb2 HM HO
      by_cases hki : k = i
      · by_cases he : o = (i : Int)
        · have hki2 : ((k : Int) == (i : Int)) = true := by rw [beq_iff_eq]; omega
          have s0 : IntKind.i64.wrap (m + x) = m + x := by rw [IntKind.wrap_i64]; omega
          have he2 : (o == (i : Int)) = true := by rw [beq_iff_eq]; exact he
          have s1 : IntKind.i64.wrap (m + x + (S : Int)) = m + x + (S : Int) := by rw [IntKind.wrap_i64]; omega
          have s2 : IntKind.i64.wrap (m + x + (S : Int) - x) = m + x + (S : Int) - x := by rw [IntKind.wrap_i64]; omega
          have HKI := Lib.hid hki
          have HE := Lib.hid he
          clear he hki
          go_wp2_with fail
          go_quiet (fail)
          go_wp2_with fail
          go_roundw
          case rel => exact ⟨k + 1, by go_num, by omega, by rw [HU.out, if_pos HKI.out, if_pos HE.out]; congr 1; omega, Lib.hid (K.out.dr nq)⟩
          case measure => simp [intOf]; omega
        · have hki2 : ((k : Int) == (i : Int)) = true := by rw [beq_iff_eq]; omega
          have s0 : IntKind.i64.wrap (m + x) = m + x := by rw [IntKind.wrap_i64]; omega
          have he2 : (o == (i : Int)) = false := by rw [beq_eq_false_iff_ne]; exact he
          have HKI := Lib.hid hki
          have HE := Lib.hid he
          clear he hki
          go_wp2_with fail
          go_roundw
          case rel => exact ⟨k + 1, by go_num, by omega, by rw [HU.out, if_pos HKI.out, if_neg HE.out]; congr 1; omega, K⟩
          case measure => simp [intOf]; omega
      · by_cases he : o = (i : Int)
        · have hki2 : ((k : Int) == (i : Int)) = false := by rw [beq_eq_false_iff_ne]; omega
          have he2 : (o == (i : Int)) = true := by rw [beq_iff_eq]; exact he
          have s1 : IntKind.i64.wrap (m + (S : Int)) = m + (S : Int) := by rw [IntKind.wrap_i64]; omega
          have s2 : IntKind.i64.wrap (m + (S : Int) - x) = m + (S : Int) - x := by rw [IntKind.wrap_i64]; omega
          have HKI := Lib.hid hki
          have HE := Lib.hid he
          clear he hki
          go_wp2_with fail
          go_quiet (fail)
          go_wp2_with fail
          go_roundw
          case rel => exact ⟨k + 1, by go_num, by omega, by rw [HU.out, if_neg HKI.out, if_pos HE.out]; congr 1; omega, Lib.hid (K.out.dr nq)⟩
          case measure => simp [intOf]; omega
        · have hki2 : ((k : Int) == (i : Int)) = false := by rw [beq_eq_false_iff_ne]; omega
          have he2 : (o == (i : Int)) = false := by rw [beq_eq_false_iff_ne]; exact he
          have HKI := Lib.hid hki
          have HE := Lib.hid he
          clear he hki
          go_wp2_with fail
          go_roundw
          case rel => exact ⟨k + 1, by go_num, by omega, by rw [HU.out, if_neg HKI.out, if_neg HE.out]; congr 1; omega, K⟩
          case measure => simp [intOf]; omega
    · have hlt2 : ¬ ((k : Int) < (n : Int)) := by omega
      have hkn : k = n := by omega
      subst hkn
      rw [← HM.out]
      have HV := Lib.hid (fun (W' : World) (hk : Kp wr W') => show (W'.cell? ⟨g, 0, none⟩ = some (.int .i64 (S : Int)) ∧ W'.cell? ⟨g, 1, none⟩ = some (.slice (some ⟨gc, 0, none⟩) k cc)) ∧ Rs w W' #[.bool false, .slice none 0 0, .slice none 0 0] 42 from ⟨Bk.lits2 (HTk.out.nx hk).tb, R0.out.nx (Kp.nx K.out hk)⟩)
      obtain ⟨c0, c1⟩ := Bk.lits2 HTk.out.tb
      clear HT HTk R0 HM HCU
      go_wp2_with fail
      clear c0 c1
      apply joinQ (F := fun W g p d q e => Kp wr W ∧ wr.heap.size ≤ g ∧ Bk W g #[.bool false, .slice p us.length d, .slice q vs.length e] 42 ∧ Fr (w.heap.size + 1) W p d us ∧ Fr (w.heap.size + 1) W q e vs)
      case h =>
        intro KEY
        go_region_held3 (fun W => W.cell? ⟨g, 0, none⟩ = some (.int .i64 (S : Int)) ∧ W.cell? ⟨g, 1, none⟩ = some (.slice (some ⟨gc, 0, none⟩) k cc))
          (first
            | exact (HV.out _ (Kp.refl _)).1
            | exact (HV.out _ (Kp.refl _).dr1).1
            | exact (HV.out _ (Kp.al (Kp.refl _).dr1 (.cells #[.bool false, .slice none 0 0, .slice none 0 0] 42))).1
            | exact (HV.out _ ((Kp.refl _).al (.cells #[.bool false, .slice none 0 0, .slice none 0 0] 42)).dr1).1
            | exact (HV.out _ ((Kp.refl _).al (.cells #[.bool false, .slice none 0 0, .slice none 0 0] 42))).1
            | exact (HV.out _ k5).1
            | exact (HV.out _ (Kp.al k5 (.cells #[.bool false, .slice none 0 0, .slice none 0 0] 42))).1
            | exact (HV.out _ kS).1)
          (first
            | (go_at_call 46; (with_reducible refine (HO.out (wr.drew)).mono ?_); rintro e W3 ⟨p5, d5, p6, d6, rfl, ho5, ho6, hb⟩; have k5 := Kp.nx (Kp.refl wr).dr1 hb; have B9 := Bk.new W3 #[.bool false, .slice none 0 0, .slice none 0 0] 42; have kab := Kp.al (Kp.refl W3) (.cells #[.bool false, .slice p5 us.length d5, .slice p6 vs.length d6] 42); have kS := Kp.nx k5 kab; have hg9 := k5.size; have BV := Bk.new W3 #[.bool false, .slice p5 us.length d5, .slice p6 vs.length d6] 42; have HO5 := (ho5.mono (HV.out _ (Kp.refl wr).dr1).2.sz).nx kab; have HO6 := (ho6.mono (HV.out _ (Kp.refl wr).dr1).2.sz).nx kab; have mkz := kab; have f0 := B9.f 0; have f1 := B9.f 1; have f2 := B9.f 2; have r0 := B9.c 0; have r1 := B9.c 1; have r2 := B9.c 2)
            | (go_at_call 46; (with_reducible refine (HO.out (wr.drew.alloc (.cells #[.bool false, .slice none 0 0, .slice none 0 0] 42))).mono ?_); rintro e W3 ⟨p5, d5, p6, d6, rfl, ho5, ho6, hb⟩; have k5 := Kp.nx (Kp.al (Kp.refl wr).dr1 (.cells #[.bool false, .slice none 0 0, .slice none 0 0] 42)) hb; have hg9 : wr.heap.size ≤ wr.drew.heap.size := Nat.le_refl _; have BN := Bk.new wr.drew #[.bool false, .slice none 0 0, .slice none 0 0] 42; have B9 := BN.nx hb; have kS := Kp.put3 k5 hg9 (.bool false) (.slice p5 us.length d5) (.slice p6 vs.length d6); have BV := B9.put3 (.bool false) (.slice p5 us.length d5) (.slice p6 vs.length d6); have HO5 := (ho5.put3 BN.lt (.bool false) (.slice p5 us.length d5) (.slice p6 vs.length d6)).mono (HV.out _ (Kp.al (Kp.refl wr).dr1 (.cells #[.bool false, .slice none 0 0, .slice none 0 0] 42))).2.sz; have HO6 := (ho6.put3 BN.lt (.bool false) (.slice p5 us.length d5) (.slice p6 vs.length d6)).mono (HV.out _ (Kp.al (Kp.refl wr).dr1 (.cells #[.bool false, .slice none 0 0, .slice none 0 0] 42))).2.sz; unfold RA.put3 at kS BV HO5 HO6; have mk0 := kS; have f0 := B9.f 0; have f1 := B9.f 1; have f2 := B9.f 2; have r0 := B9.c 0; have r1 := B9.c 1; have r2 := B9.c 2)
            | (go_at_call 46; (with_reducible refine (HO.out (wr.alloc (.cells #[.bool false, .slice none 0 0, .slice none 0 0] 42)).drew).mono ?_); rintro e W3 ⟨p5, d5, p6, d6, rfl, ho5, ho6, hb⟩; have k5 := Kp.nx ((Kp.refl wr).al (.cells #[.bool false, .slice none 0 0, .slice none 0 0] 42)).dr1 hb; have hg9 : wr.heap.size ≤ wr.heap.size := Nat.le_refl _; have BN := Bk.new wr #[.bool false, .slice none 0 0, .slice none 0 0] 42; have B9 := BN.nx (Kp.nx (Kp.refl _).dr1 hb); have kS := Kp.put3 k5 hg9 (.bool false) (.slice p5 us.length d5) (.slice p6 vs.length d6); have BV := B9.put3 (.bool false) (.slice p5 us.length d5) (.slice p6 vs.length d6); have HO5 := (ho5.put3 BN.lt (.bool false) (.slice p5 us.length d5) (.slice p6 vs.length d6)).mono (HV.out _ ((Kp.refl wr).al (.cells #[.bool false, .slice none 0 0, .slice none 0 0] 42)).dr1).2.sz; have HO6 := (ho6.put3 BN.lt (.bool false) (.slice p5 us.length d5) (.slice p6 vs.length d6)).mono (HV.out _ ((Kp.refl wr).al (.cells #[.bool false, .slice none 0 0, .slice none 0 0] 42)).dr1).2.sz; unfold RA.put3 at kS BV HO5 HO6; have mkd := kS; have f0 := B9.f 0; have f1 := B9.f 1; have f2 := B9.f 2; have r0 := B9.c 0; have r1 := B9.c 1; have r2 := B9.c 2))
        all_goals
          first
            | (have hcase := mkz; generalize (W3.alloc (.cells #[.bool false, .slice p5 us.length d5, .slice p6 vs.length d6] 42)) = Wb at *; obtain ⟨g9, hg8⟩ : ∃ g, W3.heap.size = g := ⟨_, rfl⟩; simp only [hg8] at BV ⊢; exact KEY Wb g9 p5 d5 p6 d6 ⟨kS, by rw [← hg8]; exact hg9, BV, HO5, HO6⟩)
            | (have hcase := mk0; generalize (((W3.setCell ⟨wr.drew.heap.size, 0, none⟩ (.bool false)).setCell ⟨wr.drew.heap.size, 1, none⟩ (.slice p5 us.length d5)).setCell ⟨wr.drew.heap.size, 2, none⟩ (.slice p6 vs.length d6)) = Wb at *; obtain ⟨g9, hg8⟩ : ∃ g, wr.drew.heap.size = g := ⟨_, rfl⟩; simp only [hg8] at BV ⊢; exact KEY Wb g9 p5 d5 p6 d6 ⟨kS, by rw [← hg8]; exact hg9, BV, HO5, HO6⟩)
            | (have hcase := mkd; generalize (((W3.setCell ⟨wr.heap.size, 0, none⟩ (.bool false)).setCell ⟨wr.heap.size, 1, none⟩ (.slice p5 us.length d5)).setCell ⟨wr.heap.size, 2, none⟩ (.slice p6 vs.length d6)) = Wb at *; obtain ⟨g9, hg8⟩ : ∃ g, wr.heap.size = g := ⟨_, rfl⟩; simp only [hg8] at BV ⊢; exact KEY Wb g9 p5 d5 p6 d6 ⟨kS, by rw [← hg8]; exact hg9, BV, HO5, HO6⟩)
      case key =>
        intro Wb g9 p5 d5 p6 d6 HF
        have HR := Lib.hid (HV.out _ HF.1).2
        have b0 := HF.2.2.1.c 0
        have b1 := HF.2.2.1.c 1
        have b2 := HF.2.2.1.c 2
        have HO5 := Lib.hid HF.2.2.2.1
        have HO6 := Lib.hid HF.2.2.2.2
        have f0 := HR.out.rb.f 0
        have f1 := HR.out.rb.f 1
        have f2 := HR.out.rb.f 2
        have r0 := HR.out.rb.c 0
        have r1 := HR.out.rb.c 1
        have r2 := HR.out.rb.c 2
        clear HF HV HO
        go_wp2_with fail
        have RB := HR.out.rb.put3 (.bool false) (.slice p5 us.length d5) (.slice p6 vs.length d6)
        unfold RA.put3 at RB
        have z0 := RB.c 0
        have z1 := RB.c 1
        have z2 := RB.c 2
        refine bodyPost_ret (v := .agg #[.bool false, .slice p5 us.length d5, .slice p6 vs.length d6]) (by simp [results, Try.results21, go_sem, z0, z1, z2]) rfl ?_
        exact ⟨_, _, _, _, rfl, (HO5.out.put3 (by omega) _ _ _).mono (by omega), (HO6.out.put3 (by omega) _ _ _).mono (by omega), Kp.put3 HR.out.kw (by omega) _ _ _⟩
end Go.Proofs.AL
