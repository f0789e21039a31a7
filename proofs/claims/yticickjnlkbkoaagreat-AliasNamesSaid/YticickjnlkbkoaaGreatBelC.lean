/- Below: Width, Draw of the program and of the document's answer. -/
import Derived.Test.YticickjnlkbkoaaGreatBelB
import Derived.Test.YticickjnlkbkoaaGreatMW
import Derived.Test.YticickjnlkbkoaaGreatMR
namespace Go.Proofs.BL
open Go.RowKit
open Go.Proofs
open Go.Proofs.BT
open Go.Proofs.SL
open Go
set_option linter.unusedVariables false
set_option linter.unusedSimpArgs false
set_option maxRecDepth 20000
theorem width0 (w : World) :
    Calls Tryz.prog 42 #[.int .u64 0] w fun e w' => e = .returned (.int .i64 0) ∧ w = w' := by
  go_enter Tryz.func42, Tryz.ntmps42
  go_wp2_with fail
  go_ret
  exact ⟨rfl, rfl⟩
theorem width1 (m : Nat) (w : World) (hm : m < 18446744073709551616) (z : Nat) (hz : z = wid m) :
    Calls Tryz.prog 42 #[.int .u64 (m : Int)] w fun e w' => e = .returned (.int .i64 (z : Int)) ∧ w = w' := by
  by_cases h0 : m = 0
  · subst h0
    have e : z = 0 := by rw [hz]; rfl
    subst e
    exact width0 w
  · have HL := Lib.hid (W.len ((m - 1 : Nat) : Int) (by omega) (by omega) w)
    have HZ := Lib.hid (show ((bitLen ((m - 1 : Nat) : Int).toNat : Nat) : Int) = (z : Int) by rw [hz, Int.toNat_natCast]; rfl)
    clear hz
    have hw : IntKind.u64.wrap ((m : Int) - 1) = ((m - 1 : Nat) : Int) := by rw [IntKind.wrap_u64]; omega
    go_enter Tryz.func42, Tryz.ntmps42
    go_wp2_with fail
    refine HL.out.mono ?_; rintro e w' ⟨rfl, rfl⟩
    rw [HZ.out]
    clear HL HZ
    go_wp2_with fail
    go_ret
    exact ⟨rfl, rfl⟩
theorem run_makeFunc {P : Program} (fn : Fn) (first cap : Array Value) (w : World) : (Instr.makeFunc fn first cap).run P w = .ok (.func fn first cap) w := rfl
/-- what is known behind a call that reads of a cursor -/
def Cut (T : TypeId) (w : World) (b : Nat) (s : ByteArray) (R : Dr) (e : Ending) (w' : World) : Prop :=
  e = .returned (.tuple #[.int .u64 (R.x : Int), .bool R.is]) ∧ Cu T w' b s R.at' R.ov ∧ w.grownBy w' (some b)
/-- where a cursor stands -/
def posOf (b : Nat) (w : World) : Nat := match w.cell? ⟨b, 1, none⟩ with
  | some (.int _ z) => z.toNat
  | _ => 0
theorem posOf_eq {T : TypeId} {w : World} {b a : Nat} {s : ByteArray} {o : Bool} (h : Cu T w b s a o) : posOf b w = a := by
  unfold posOf; rw [h.c1]; simp
theorem grown_trans {w w1 w2 : World} {row : Option Nat} (h : w.grownBy w1 row) (k : w1.grownBy w2 row) : w.grownBy w2 row :=
  ⟨k.os.trans h.os, k.tape.trans h.tape, k.output.trans h.output, Nat.le_trans h.size k.size, fun i hi hne => (k.block i (Nat.lt_of_lt_of_le hi h.size) hne).trans (h.block i hi hne)⟩
theorem first1_over (b a m : Nat) (s : ByteArray) (w : World) (h : Cp w b s a true) (hm : m < 18446744073709551616) :
    Calls Tryz.prog 37 #[.func (.func 36) #[.pointer (some ⟨b, 0, none⟩)] #[], .int .u64 (m : Int)] w (Cut 65 w b s ⟨0, false, a, true⟩) := by
  obtain ⟨z, hz⟩ : ∃ z, z = wid m := ⟨_, rfl⟩
  have HW := Lib.hid (width1 m w hm z hz)
  have HT := Lib.hid (take1_over b a z s w h (by rw [hz]; exact wid_le m hm))
  have HF := Lib.hid (show Cut 65 w b s ⟨0, false, a, true⟩ (.returned (.tuple #[.int .u64 0, .bool false])) w from ⟨rfl, h, World.grownBy.refl _ _⟩)
  clear h hz
  go_enter Tryz.func37, Tryz.ntmps37
  go_wp2_with fail
  refine HW.out.mono ?_; rintro e w' ⟨rfl, rfl⟩
  go_wp2_with fail
  go_loopw [7] (fun _ wr => w = wr) (fun _ _ => 0)
  case atStart => rfl
  case round =>
    obtain rfl := hrel
    go_wp2_with fail
    refine HT.out.mono ?_; rintro e w' ⟨rfl, rfl⟩
    go_wp2_with fail
    go_ret2
    exact HF.out
theorem first1 (b a m : Nat) (s : ByteArray) (w : World) (h : Cp w b s a false) (ha : a ≤ s.size) (hs : s.size ≤ 4294967296) (hb : BT.bits s = true) (hm : m < 18446744073709551616) (h0 : 0 < m) (R : Dr) (hR : R = drw s m (s.size - a + 1) a) :
    Calls Tryz.prog 37 #[.func (.func 36) #[.pointer (some ⟨b, 0, none⟩)] #[], .int .u64 (m : Int)] w (Cut 65 w b s R) := by
  obtain ⟨z, hz⟩ : ∃ z, z = wid m := ⟨_, rfl⟩
  have hz64 : z ≤ 64 := by rw [hz]; exact wid_le m hm
  have hz0 := Lib.hid (fun (h : z = 0) => wid_zero m h0 (by rw [← hz]; exact h))
  have HW := Lib.hid (width1 m w hm z hz)
  have HZ := Lib.hid hz
  have HR := Lib.hid hR
  have HH := Lib.hid h
  have HTn := Lib.hid (fun (a : Nat) (w : World) (h : Cp w b s a false) (ha : a ≤ s.size) (hlt : s.size < a + z) => take1_none b a z s w h hz64 hs ha hlt)
  have HTo := Lib.hid (fun (a : Nat) (w : World) (h : Cp w b s a false) (hlt : a + z ≤ s.size) (x : Nat) (hx : x = numA s a z) => take1_ok b a z s w h hz64 hs hb hlt x hx)
  have HX := Lib.hid (fun a => numA_64 s a z hz64)
  clear h hz hR hb
  go_enter Tryz.func37, Tryz.ntmps37
  go_wp2_with fail
  refine HW.out.mono ?_; rintro e w' ⟨rfl, rfl⟩
  clear HW
  go_wp2_with fail
  go_loopw [7] (fun _ wr => ∃ f a' : Nat, Hid (Cp wr b s a' false) ∧ Hid (drw s m f a' = R) ∧ a' ≤ s.size ∧ s.size < a' + f ∧ Hid (w.grownBy wr (some b))) (fun _ wr => s.size - posOf b wr)
  case atStart => exact ⟨s.size - a + 1, a, HH.out, HR.out.symm, ha, by omega, World.grownBy.refl _ _⟩
  case round =>
    clear HR HH ha
    clear a
    obtain ⟨f, a, HC, HR, ha, hf, HG⟩ := hrel
    obtain ⟨f, rfl⟩ : ∃ f', f = f' + 1 := ⟨f - 1, by omega⟩
    have hR := HR.out
    rw [drw, ← HZ.out] at hR
    obtain ⟨wo, rfl⟩ : ∃ wo : World, wo = wr := ⟨_, rfl⟩
    by_cases c1 : s.size < a + z
    · rw [if_pos c1] at hR
      have HT := Lib.hid (HTn.out a wo HC.out ha c1)
      have HR2 := Lib.hid hR
      clear HTn HTo hR HR
      go_wp2_with fail
      refine HT.out.mono ?_; rintro e w1 ⟨rfl, hc, hg⟩
      have HF := Lib.hid (show Cut 65 w b s R (.returned (.tuple #[.int .u64 0, .bool false])) w1 from ⟨by rw [← HR2.out]; rfl, by rw [← HR2.out]; exact hc, grown_trans HG.out hg⟩)
      clear HT hc hg
      go_wp2_with fail
      go_ret2
      exact HF.out
    · rw [if_neg c1] at hR
      obtain ⟨x, hx⟩ : ∃ x, x = numA s a z := ⟨_, rfl⟩
      rw [← hx] at hR
      have hx64 : x < 18446744073709551616 := by rw [hx]; exact HX.out a
      have HT := Lib.hid (HTo.out a wo HC.out (by omega) x hx)
      have HXE := Lib.hid hx
      clear HTn HTo HR hx
      by_cases c2 : x < m
      · rw [if_pos c2] at hR
        have HR2 := Lib.hid hR
        clear hR
        go_wp2_with fail
        refine HT.out.mono ?_; rintro e w1 ⟨rfl, hc, hg⟩
        have HF := Lib.hid (show Cut 65 w b s R (.returned (.tuple #[.int .u64 (x : Int), .bool true])) w1 from ⟨by rw [← HR2.out], by rw [← HR2.out]; exact hc, grown_trans HG.out hg⟩)
        clear HT hc hg
        go_wp2_with fail
        go_ret2
        exact HF.out
      · rw [if_neg c2] at hR
        have hz1 : 0 < z := by
          rcases Nat.eq_zero_or_pos z with h | h
          · have h1 := hz0.out h
            have h2 := HXE.out
            rw [h, numA] at h2
            omega
          · exact h
        have HR2 := Lib.hid hR
        have HP := Lib.hid (posOf_eq HC.out)
        clear hR
        go_wp2_with fail
        refine HT.out.mono ?_; rintro e w1 ⟨rfl, hc, hg⟩
        have HC2 := Lib.hid hc
        have HG2 := Lib.hid (grown_trans HG.out hg)
        have HP2 := Lib.hid (posOf_eq hc)
        clear HT hc hg
        go_wp2_with fail
        go_roundw
        case rel => exact ⟨f, a + z, HC2, HR2, by omega, by omega, HG2⟩
        case measure => rw [HP.out, HP2.out]; omega
/-- a draw by the program -/
theorem draw1 (b a m : Nat) (s : ByteArray) (o : Bool) (w : World) (h : Cp w b s a o) (ha : a ≤ s.size) (hs : s.size ≤ 4294967296) (hb : BT.bits s = true) (hm : m < 18446744073709551616) (R : Dr) (hR : R = draw s m a o) :
    Calls Tryz.prog 25 #[.pointer (some ⟨b, 0, none⟩), .int .u64 (m : Int)] w (Cut 65 w b s R) := by
  by_cases h0 : m = 0
  · subst h0
    rw [draw, if_pos (.inl rfl)] at hR
    have HF := Lib.hid (show Cut 65 w b s R (.returned (.tuple #[.int .u64 0, .bool false])) w from ⟨by rw [hR]; rfl, by rw [hR]; exact h, World.grownBy.refl _ _⟩)
    clear h hR
    show Calls Tryz.prog 25 #[.pointer (some ⟨b, 0, none⟩), .int .u64 0] w _
    go_enter Tryz.func25, Tryz.ntmps25
    go_wp2_with fail
    go_ret2
    exact HF.out
  · have h1 : ¬ ((m : Int) = 0) := by omega
    cases o with
    | true =>
      rw [draw, if_pos (.inr rfl)] at hR
      subst hR
      have HT := Lib.hid (first1_over b a m s w h hm)
      clear h
      go_enter Tryz.func25, Tryz.ntmps25
      go_wp2_with fail
      refine HT.out.mono ?_; rintro e w1 ⟨rfl, hc⟩
      have HF := Lib.hid hc
      clear HT hc
      go_wp2_with fail
      go_ret2
      exact ⟨rfl, HF.out⟩
    | false =>
      rw [draw, if_neg (by simp [h0])] at hR
      have HT := Lib.hid (first1 b a m s w h ha hs hb hm (by omega) R hR)
      clear h hR hb
      go_enter Tryz.func25, Tryz.ntmps25
      go_wp2_with fail
      refine HT.out.mono ?_; rintro e w1 ⟨rfl, hc⟩
      have HF := Lib.hid hc
      clear HT hc
      go_wp2_with fail
      go_ret2
      exact ⟨rfl, HF.out⟩
end Go.Proofs.BL
