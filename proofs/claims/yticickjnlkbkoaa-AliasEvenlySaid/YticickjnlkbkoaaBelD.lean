/- Below: the document's Take and Draw. -/
import Derived.Test.YticickjnlkbkoaaBelC
namespace Go.Proofs.BL
open Go.RowKit
open Go.Proofs
open Go.Proofs.BT
open Go.Proofs.SL
open Go
set_option linter.unusedVariables false
set_option linter.unusedSimpArgs false
set_option maxRecDepth 20000
theorem take2_over (b a n : Nat) (s : ByteArray) (w : World) (h : Cr w b s a true) (hn : n ≤ 64) :
    Calls Try.prog 76 #[.pointer (some ⟨b, 0, none⟩), .int .i64 (n : Int)] w fun e w' => e = .returned (.tuple #[.int .u64 0, .bool false]) ∧ w = w' := by
  have c2 := h.c2
  have h1 : ¬ ((n : Int) < 0) := by omega
  have h2 : ¬ ((64 : Int) < (n : Int)) := by omega
  clear h
  go_enter Try.func76, Try.ntmps76
  go_wp2_with fail
  go_ret2
  exact ⟨rfl, rfl⟩
theorem take2_none (b a n : Nat) (s : ByteArray) (w : World) (h : Cr w b s a false) (hn : n ≤ 64) (hs : s.size ≤ 4294967296) (ha : a ≤ s.size) (hlt : s.size < a + n) :
    Calls Try.prog 76 #[.pointer (some ⟨b, 0, none⟩), .int .i64 (n : Int)] w fun e w' => e = .returned (.tuple #[.int .u64 0, .bool false]) ∧ Cr w' b s a true ∧ w.grownBy w' (some b) := by
  have c0 := h.c0
  have c1 := h.c1
  have c2 := h.c2
  have fr := h.fr 2
  have HH := Lib.hid h
  have h1 : ¬ ((n : Int) < 0) := by omega
  have h2 : ¬ ((64 : Int) < (n : Int)) := by omega
  have hw : IntKind.i64.wrap ((s.size : Int) - (a : Int)) = (s.size : Int) - (a : Int) := by rw [IntKind.wrap_i64]; omega
  have hl : (s.size : Int) - (a : Int) < (n : Int) := by omega
  clear h
  go_enter Try.func76, Try.ntmps76
  go_wp2_with fail
  go_quiet (fail)
  go_wp2_with fail
  go_ret2
  exact ⟨rfl, (HH.out.dr nq).set2 true, grown_drew nq (grown_set _ b 2 _)⟩
theorem take2_ok (b a n : Nat) (s : ByteArray) (w : World) (h : Cr w b s a false) (hn : n ≤ 64) (hs : s.size ≤ 4294967296) (hb : BT.bits s = true) (hlt : a + n ≤ s.size) (z : Nat) (hz : z = numA s a n) :
    Calls Try.prog 76 #[.pointer (some ⟨b, 0, none⟩), .int .i64 (n : Int)] w fun e w' => e = .returned (.tuple #[.int .u64 (z : Nat), .bool true]) ∧ Cr w' b s (a + n) false ∧ w.grownBy w' (some b) := by
  have d0 := h.c0
  have d1 := h.c1
  have c2 := h.c2
  have HH := Lib.hid h
  have HZ := Lib.hid hz
  have HB := Lib.hid hb
  have h1 : ¬ ((n : Int) < 0) := by omega
  have h2 : ¬ ((64 : Int) < (n : Int)) := by omega
  have hw : IntKind.i64.wrap ((s.size : Int) - (a : Int)) = (s.size : Int) - (a : Int) := by rw [IntKind.wrap_i64]; omega
  have hl : ¬ ((s.size : Int) - (a : Int) < (n : Int)) := by omega
  clear h hz hb
  go_enter Try.func76, Try.ntmps76
  go_wp2_with fail
  go_quiet (fail)
  go_wp2_with fail
  go_loopw [6, 7] (fun s4 s7 wr => ∃ i x q : Nat, s4 = .int .u64 (x : Int) ∧ s7 = .int .i64 (i : Int) ∧ i ≤ n ∧ Hid (x = numA s a i) ∧ w.drewN q = wr) (fun _ v _ => n - (intOf v).toNat)
  case atStart => exact ⟨0, 0, nq, rfl, rfl, by omega, rfl, rfl⟩
  case round =>
    obtain ⟨i, x, q, rfl, rfl, hi, HN, rfl⟩ := hrel
    clear hw hl
    by_cases hlt2 : i < n
    · have hx : x < 9223372036854775808 := by rw [HN.out]; exact numA_63 s a i (by omega)
      obtain ⟨j, hj⟩ : ∃ j, a + i = j := ⟨_, rfl⟩
      have hi1 : j < s.size := by omega
      have hnx := numA_next' HB.out a i j hj hi1
      have hw : IntKind.i64.wrap ((a : Int) + (i : Int)) = (j : Int) := by rw [IntKind.wrap_i64]; omega
      have hji : (j : Int) < (s.size : Int) := by omega
      have hj0 : ¬ ((j : Int) < 0) := by omega
      clear hj
      rcases hnx with ⟨h3, h4⟩ | ⟨h3, h4⟩
      · have HN2 := Lib.hid (show 2 * x = numA s a (i + 1) by rw [h4, HN.out])
        clear h4 HN
        go_wp2_with fail
        go_quiet (fail)
        go_wp2_with fail
        go_roundw
        case rel => exact ⟨i + 1, 2 * x, q + nq, by go_num, by go_num, by omega, HN2, by first | rfl | rw [World.drewN_drewN]⟩
        case measure => simp [intOf]; omega
      · have HN2 := Lib.hid (show 2 * x + 1 = numA s a (i + 1) by rw [h4, HN.out])
        clear h4 HN
        go_wp2_with fail
        go_quiet (fail)
        go_wp2_with fail
        go_roundw
        case rel => exact ⟨i + 1, 2 * x + 1, q + nq, by go_num, by go_num, by omega, HN2, by first | rfl | rw [World.drewN_drewN]⟩
        case measure => simp [intOf]; omega
    · obtain rfl : i = n := by omega
      obtain rfl : x = z := by rw [HN.out, HZ.out]
      have hw : IntKind.i64.wrap ((a : Int) + (i : Int)) = ((a + i : Nat) : Int) := by rw [IntKind.wrap_i64]; omega
      have fr1 := HH.out.fr 1
      clear HN HZ
      go_wp2_with fail
      go_ret2
      exact ⟨rfl, (HH.out.dr q).set1 (a + i) _ (by omega), grown_drew q (grown_set _ b 1 _)⟩
theorem draw2 (b a m : Nat) (s : ByteArray) (o : Bool) (w : World) (h : Cr w b s a o) (ha : a ≤ s.size) (hs : s.size ≤ 4294967296) (hb : BT.bits s = true) (hm : m < 18446744073709551616) (R : Dr) (hR : R = draw s m a o) :
    Calls Try.prog 50 #[.pointer (some ⟨b, 0, none⟩), .int .u64 (m : Int)] w (Cut 70 w b s R) := by
  obtain ⟨z, hz⟩ : ∃ z, z = wid m := ⟨_, rfl⟩
  have hz64 : z ≤ 64 := by rw [hz]; exact wid_le m hm
  have HW := Lib.hid (fun w => width2 m w hm z hz)
  by_cases h0 : m = 0
  · subst h0
    rw [draw, if_pos (.inl rfl)] at hR
    have HF := Lib.hid (show Cut 70 w b s R (.returned (.tuple #[.int .u64 0, .bool false])) w from ⟨by rw [hR]; rfl, by rw [hR]; exact h, World.grownBy.refl _ _⟩)
    clear h hR hz HW
    show Calls Try.prog 50 #[.pointer (some ⟨b, 0, none⟩), .int .u64 0] w _
    go_enter Try.func50, Try.ntmps50
    go_wp2_with fail
    go_ret2
    exact HF.out
  have h1 : ¬ ((m : Int) = 0) := by omega
  have h1b : ((m : Int) == 0) = false := by rw [beq_eq_false_iff_ne]; exact h1
  have hz0 := Lib.hid (fun (h : z = 0) => wid_zero m (by omega) (by rw [← hz]; exact h))
  cases o with
  | true =>
    rw [draw, if_pos (.inr rfl)] at hR
    have HF := Lib.hid (show Cut 70 w b s R (.returned (.tuple #[.int .u64 0, .bool false])) w from ⟨by rw [hR]; rfl, by rw [hR]; exact h, World.grownBy.refl _ _⟩)
    have HT := Lib.hid (take2_over b a z s w h hz64)
    clear h hR hz
    go_enter Try.func50, Try.ntmps50
    go_wp2_with fail
    go_loopw [6] (fun _ wr => w = wr) (fun _ _ => 0)
    case atStart => rfl
    case round =>
      obtain rfl := hrel
      go_wp2_with fail
      refine (HW.out _).mono ?_; rintro e w' ⟨rfl, rfl⟩
      go_wp2_with fail
      refine HT.out.mono ?_; rintro e w' ⟨rfl, rfl⟩
      go_wp2_with fail
      go_ret2
      exact HF.out
  | false =>
    rw [draw, if_neg (by simp [h0])] at hR
    have HZ := Lib.hid hz
    have HR := Lib.hid hR
    have HH := Lib.hid h
    have HTn := Lib.hid (fun (a : Nat) (w : World) (h : Cr w b s a false) (ha : a ≤ s.size) (hlt : s.size < a + z) => take2_none b a z s w h hz64 hs ha hlt)
    have HTo := Lib.hid (fun (a : Nat) (w : World) (h : Cr w b s a false) (hlt : a + z ≤ s.size) (x : Nat) (hx : x = numA s a z) => take2_ok b a z s w h hz64 hs hb hlt x hx)
    have HX := Lib.hid (fun a => numA_64 s a z hz64)
    clear h hz hR hb
    go_enter Try.func50, Try.ntmps50
    go_wp2_with fail
    go_loopw [6] (fun _ wr => ∃ f a' : Nat, Hid (Cr wr b s a' false) ∧ Hid (drw s m f a' = R) ∧ a' ≤ s.size ∧ s.size < a' + f ∧ Hid (w.grownBy wr (some b))) (fun _ wr => s.size - posOf b wr)
    case atStart => exact ⟨s.size - a + 1, a, HH.out, HR.out.symm, ha, by omega, World.grownBy.refl _ _⟩
    case round =>
      clear HR HH ha
      clear a
      obtain ⟨f, a, HC, HR, ha, hf, HG⟩ := hrel
      obtain ⟨f, rfl⟩ : ∃ f', f = f' + 1 := ⟨f - 1, by omega⟩
      have hR := HR.out
      rw [drw, ← HZ.out] at hR
      obtain ⟨wo, rfl⟩ : ∃ wo : World, wo = wr := ⟨_, rfl⟩
      by_cases c1 : s.size < a + z
      · rw [if_pos c1] at hR
        have HT := Lib.hid (HTn.out a wo HC.out ha c1)
        have HR2 := Lib.hid hR
        clear HTn HTo hR HR
        go_wp2_with fail
        refine (HW.out _).mono ?_; rintro e w' ⟨rfl, rfl⟩
        go_wp2_with fail
        refine HT.out.mono ?_; rintro e w1 ⟨rfl, hc, hg⟩
        have HF := Lib.hid (show Cut 70 w b s R (.returned (.tuple #[.int .u64 0, .bool false])) w1 from ⟨by rw [← HR2.out]; rfl, by rw [← HR2.out]; exact hc, grown_trans HG.out hg⟩)
        clear HT hc hg
        go_wp2_with fail
        go_ret2
        exact HF.out
      · rw [if_neg c1] at hR
        obtain ⟨x, hx⟩ : ∃ x, x = numA s a z := ⟨_, rfl⟩
        rw [← hx] at hR
        have hx64 : x < 18446744073709551616 := by rw [hx]; exact HX.out a
        have HT := Lib.hid (HTo.out a wo HC.out (by omega) x hx)
        have HXE := Lib.hid hx
        clear HTn HTo HR hx
        by_cases c2 : x < m
        · rw [if_pos c2] at hR
          have HR2 := Lib.hid hR
          clear hR
          go_wp2_with fail
          refine (HW.out _).mono ?_; rintro e w' ⟨rfl, rfl⟩
          go_wp2_with fail
          refine HT.out.mono ?_; rintro e w1 ⟨rfl, hc, hg⟩
          have HF := Lib.hid (show Cut 70 w b s R (.returned (.tuple #[.int .u64 (x : Int), .bool true])) w1 from ⟨by rw [← HR2.out], by rw [← HR2.out]; exact hc, grown_trans HG.out hg⟩)
          clear HT hc hg
          go_wp2_with fail
          go_ret2
          exact HF.out
        · rw [if_neg c2] at hR
          have hz1 : 0 < z := by
            rcases Nat.eq_zero_or_pos z with h | h
            · have h1 := hz0.out h
              have h2 := HXE.out
              rw [h, numA] at h2
              omega
            · exact h
          have HR2 := Lib.hid hR
          have HP := Lib.hid (posOf_eq HC.out)
          clear hR
          go_wp2_with fail
          refine (HW.out _).mono ?_; rintro e w' ⟨rfl, rfl⟩
          go_wp2_with fail
          refine HT.out.mono ?_; rintro e w1 ⟨rfl, hc, hg⟩
          have HC2 := Lib.hid hc
          have HG2 := Lib.hid (grown_trans HG.out hg)
          have HP2 := Lib.hid (posOf_eq hc)
          clear HT hc hg
          go_wp2_with fail
          go_roundw
          case rel => exact ⟨f, a + z, HC2, HR2, by omega, by omega, HG2⟩
          case measure => rw [HP.out, HP2.out]; omega
end Go.Proofs.BL
