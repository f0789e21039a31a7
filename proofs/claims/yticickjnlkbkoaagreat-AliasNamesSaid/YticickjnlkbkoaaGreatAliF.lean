/- Alias tables: a place's share. -/
import Derived.Test.YticickjnlkbkoaaGreatAliB
import Derived.Test.YticickjnlkbkoaaGreatRatE
import Derived.Deep.RegionHeld3
namespace Go.Proofs.AL
open Go.RowKit
open Go.Proofs
open Go.Proofs.NP
open Go.Proofs.SL
open Go.Proofs.RA
open Go
set_option linter.unusedVariables false
set_option linter.unusedSimpArgs false
set_option maxRecDepth 20000
variable {w : World} {g gc go n : Nat} {cu ot : Nat → Int} {us vs : List Nat}
/-- by how many pairs a place is picked, of the first so many columns -/
def shs (s : Int) (cu ot : Nat → Int) (i : Nat) : Nat → Int
  | 0 => cu i
  | k + 1 => shs s cu ot i k + (if ot k = i then s - cu k else 0)
theorem shs_bd {s : Int} {cu ot : Nat → Int} {n : Nat} (h : ∀ k, k < n → 0 ≤ cu k ∧ cu k ≤ s) {i : Nat} (hi : i < n) : ∀ k, k ≤ n → 0 ≤ shs s cu ot i k ∧ shs s cu ot i k ≤ (k + 1) * s
  | 0, _ => by have := h i hi; simp only [shs]; omega
  | k + 1, hk => by
    have h1 := shs_bd (ot := ot) h hi k (by omega)
    have h2 := h k (by omega)
    have e : ((k + 1 : Nat) + 1 : Int) * s = (k + 1) * s + s := by rw [Int.add_mul, Int.one_mul]; simp
    simp only [shs]
    rw [e]
    split <;> omega
theorem oth9 {W : World} {b g : Nat} {cs : Array Value} {T : TypeId} (h : Bk W b cs T) (hne : b ≠ g) (x y z : Value) : Bk (RA.put3 W g x y z) b cs T := ((h.other hne 0 x).other hne 1 y).other hne 2 z
theorem Bk.lits2 {W : World} {g : Nat} {a b c : Value} {T : TypeId} (h : Bk W g #[a, b, c] T) : W.cell? ⟨g, 0, none⟩ = some a ∧ W.cell? ⟨g, 1, none⟩ = some b := ⟨h.c 0, h.c 1⟩
set_option maxHeartbeats 4000000 in
theorem tshare (S i M : Nat) (h : Tb w g gc go n (S : Int) cu ot) (hn : 1 ≤ n ∧ n ≤ 64) (hi : i < n) (hS : 1 ≤ S ∧ S ≤ 67108864) (hcu : ∀ k, k < n → 0 ≤ cu k ∧ cu k ≤ S) (hM : (M : Int) = shs S cu ot i n)
    (hu : us = L (M / Nat.gcd M (S * n))) (hv : vs = L (S * n / Nat.gcd M (S * n))) :
    Calls Tryz.prog 10 #[.pointer (some ⟨g, 0, none⟩), .int .i64 (i : Int)] w (GivesRat w us vs) := by
  obtain ⟨Q, hQ⟩ : ∃ Q, Q = S * n := ⟨_, rfl⟩
  have hQb : Q ≤ 67108864 * 64 := by rw [hQ]; exact Nat.mul_le_mul hS.2 hn.2
  have hQ0 : 0 < Q := by rw [hQ]; exact Nat.mul_pos (by omega) (by omega)
  have hQI : (S : Int) * (n : Int) = (Q : Int) := by rw [hQ, Int.natCast_mul]
  have hQw : IntKind.i64.wrap (Q : Int) = (Q : Int) := by rw [IntKind.wrap_i64]; omega
  rw [← hQ] at hu hv
  have hMb := shs_bd (ot := ot) hcu hi n (Nat.le_refl _)
  have hMb2 : M ≤ 65 * 67108864 := by
    have h1 : ((n : Int) + 1) * (S : Int) ≤ 65 * 67108864 := Int.mul_le_mul (by omega) (by omega) (by omega) (by omega)
    omega
  have HO := Lib.hid (fun W => rover (us := us) (vs := vs) M Q W (by omega) (by omega) (by omega) hu hv)
  have R0 := Lib.hid (Rs.new w #[.bool false, .slice none 0 0, .slice none 0 0] 49)
  have hgl := h.tb.lt
  have HT := Lib.hid (h.nx ((Kp.refl w).al (.cells #[.bool false, .slice none 0 0, .slice none 0 0] 49)))
  have HCU := Lib.hid hcu
  have HM := Lib.hid hM
  clear hQ hu hv hM hMb hcu h
  have hi2 : (i : Int) < (n : Int) := by omega
  go_enter Tryz.func10, Tryz.ntmps10
  go_wp2_with fail
  generalize (w.alloc (.cells #[.bool false, .slice none 0 0, .slice none 0 0] 49)) = W0 at *
  refine (at1 (i : Int) HT.out (by omega) 0 (by rw [atE, if_pos (by omega)])).mono ?_; rintro e w' ⟨rfl, rfl⟩
  obtain ⟨c1, c2⟩ := (show _ ∧ _ from ⟨HT.out.tb.c 1, HT.out.tb.c 2⟩)
  have ci := (HT.out.cb.c i).trans (row_get n cu i hi)
  go_wp2_with fail
  clear c1 c2 ci
  go_loopw [7, 29] (fun s7 s29 wr => ∃ k : Nat, s29 = .int .i64 (k : Int) ∧ k ≤ n ∧ s7 = .int .i64 (shs S cu ot i k) ∧ Hid (Kp W0 wr)) (fun _ v _ => n - (intOf v).toNat)
  case atStart => exact ⟨0, rfl, by omega, rfl, Lib.hid (Kp.refl _)⟩
  case round =>
    obtain ⟨k, rfl, hk, rfl, K⟩ := hrel
    have HTk := Lib.hid (HT.out.nx K.out)
    by_cases hlt : k < n
    · have hlt2 : (k : Int) < (n : Int) := by omega
      have hb1 := shs_bd (ot := ot) HCU.out hi k (by omega)
      have hb2 : ((k : Int) + 1) * (S : Int) ≤ 65 * 67108864 := Int.mul_le_mul (by omega) (by omega) (by omega) (by omega)
      have hb3 := HCU.out k hlt
      have HU := Lib.hid (show shs S cu ot i (k + 1) = shs S cu ot i k + (if ot k = i then S - cu k else 0) from rfl)
      obtain ⟨c0, c1⟩ := Bk.lits2 HTk.out.tb
      have ck := (HTk.out.cb.c k).trans (row_get n cu k hlt)
      have ok := (HTk.out.ob.c k).trans (row_get n ot k hlt)
      generalize shs S cu ot i k = m at *
      generalize cu k = x at *
      generalize ot k = o at *
      have hm : 0 ≤ m ∧ m ≤ 65 * 67108864 := by omega
      clear hb1 hb2
      by_cases he : o = (i : Int)
      · have he2 : (o == (i : Int)) = true := by rw [beq_iff_eq]; exact he
        have s1 : IntKind.i64.wrap ((S : Int) - x) = (S : Int) - x := by rw [IntKind.wrap_i64]; omega
        have s2 : IntKind.i64.wrap (m + ((S : Int) - x)) = m + ((S : Int) - x) := by rw [IntKind.wrap_i64]; omega
        have HE := Lib.hid he
        clear he
        go_wp2_with fail
        go_quiet (fail)
        go_wp2_with fail
        go_roundw
        case rel => exact ⟨k + 1, by go_num, by omega, by rw [HU.out, if_pos HE.out], Lib.hid (K.out.dr nq)⟩
        case measure => simp [intOf]; omega
      · have he2 : (o == (i : Int)) = false := by rw [beq_eq_false_iff_ne]; exact he
        have HE := Lib.hid he
        clear he
        go_wp2_with fail
        go_roundw
        case rel => exact ⟨k + 1, by go_num, by omega, by rw [HU.out, if_neg HE.out, Int.add_zero], K⟩
        case measure => simp [intOf]; omega
    · have hlt2 : ¬ ((k : Int) < (n : Int)) := by omega
      have hkn : k = n := by omega
      subst hkn
      rw [← HM.out]
      have HV := Lib.hid (fun (W' : World) (hk : Kp wr W') => show Tb W' g gc go k (S : Int) cu ot ∧ Rs w W' #[.bool false, .slice none 0 0, .slice none 0 0] 49 from ⟨HTk.out.nx hk, R0.out.nx (Kp.nx K.out hk)⟩)
      clear HT HTk R0 HM HCU
      go_wp2_with fail
      go_region_held3 (fun W => W.cell? ⟨g, 0, none⟩ = some (.int .i64 (S : Int)) ∧ W.cell? ⟨g, 1, none⟩ = some (.slice (some ⟨gc, 0, none⟩) k k))
        (first
          | exact Bk.lits2 (HV.out _ (Kp.refl _)).1.tb
          | exact Bk.lits2 (HV.out _ (Kp.refl _).dr1).1.tb
          | exact Bk.lits2 (HV.out _ k3).1.tb
          | exact HS)
        (first
          | (go_at_call 20; (with_reducible refine (HO.out _).mono ?_); rintro e W3 ⟨p5, d5, p6, d6, rfl, ho5, ho6, hb⟩; have k3 := Kp.nx (Kp.refl wr).dr1 hb; have f0 := (HV.out _ k3).2.rb.f 0; have f1 := (HV.out _ k3).2.rb.f 1; have f2 := (HV.out _ k3).2.rb.f 2; have r0 := (HV.out _ k3).2.rb.c 0; have r1 := (HV.out _ k3).2.rb.c 1; have r2 := (HV.out _ k3).2.rb.c 2; have HS := Bk.lits2 (oth9 (HV.out _ k3).1.tb (show g ≠ w.heap.size by omega) (.bool false) (.slice p5 us.length d5) (.slice p6 vs.length d6)); unfold RA.put3 at HS))
      have H3 := Lib.hid (HV.out _ (Kp.nx (Kp.refl wr).dr1 hb)).2
      have HSZ := (HV.out _ (Kp.refl wr).dr1).2.sz
      have HO5 := Lib.hid (ho5.mono HSZ)
      have HO6 := Lib.hid (ho6.mono HSZ)
      clear HV HO ho5 ho6 hb k3 f0 f1 f2 r0 r1 r2 HS K HSZ
      go_wp2_with fail
      have RB := H3.out.rb.put3 (.bool false) (.slice p5 us.length d5) (.slice p6 vs.length d6)
      unfold RA.put3 at RB
      have z0 := RB.c 0
      have z1 := RB.c 1
      have z2 := RB.c 2
      refine bodyPost_ret (v := .tuple #[.agg #[.bool false, .slice p5 us.length d5, .slice p6 vs.length d6], .int .i64 0]) (by simp [results, Tryz.results10, go_sem, z0, z1, z2]) rfl ?_
      exact ⟨_, _, _, _, rfl, (HO5.out.put3 (by omega) _ _ _).mono (by omega), (HO6.out.put3 (by omega) _ _ _).mono (by omega), Kp.put3 H3.out.kw (by omega) _ _ _⟩
end Go.Proofs.AL
