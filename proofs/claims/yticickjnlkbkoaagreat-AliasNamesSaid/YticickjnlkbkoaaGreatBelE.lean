/- Below: Cost of the program and of the document's answer; what is drawn by a text. -/
import Derived.Test.YticickjnlkbkoaaGreatBelD
import Derived.Test.YticickjnlkbkoaaGreatRatE
namespace Go.Proofs.BL
open Go.RowKit
open Go.Proofs
open Go.Proofs.BT
open Go.Proofs.SL
open Go.Proofs.RA
open Go.Proofs.NR (Fits GivesE)
open Go
set_option linter.unusedVariables false
set_option linter.unusedSimpArgs false
set_option maxRecDepth 20000
variable {w : World} {us vs : List Nat}
/-- the cost: its numerator and denominator ahead of any division -/
def cN (m : Nat) : Nat := wid m * 2 ^ wid m
theorem cN_fits (m : Nat) (hm : m < 18446744073709551616) : Fits (cN m) 2 := by
  unfold Fits cN
  have h1 := wid_le m hm
  have h2 : 2 ^ wid m ≤ 2 ^ 64 := Nat.pow_le_pow_right (by decide) h1
  have h3 : wid m * 2 ^ wid m ≤ 64 * 2 ^ 64 := Nat.mul_le_mul h1 h2
  have h4 : (64 : Nat) * 2 ^ 64 < 18446744073709551616 ^ 2 := by decide
  omega
set_option maxHeartbeats 1000000 in
theorem cost1 (m : Nat) (w : World) (hm : m < 18446744073709551616) (h0 : m ≠ 0) (hu : us = L (cN m / Nat.gcd (cN m) m)) (hv : vs = L (m / Nat.gcd (cN m) m)) :
    Calls Tryz.prog 28 #[.int .u64 (m : Int)] w (GivesRat w us vs) := by
  obtain ⟨z, hz⟩ : ∃ z, z = wid m := ⟨_, rfl⟩
  have hz64 : z ≤ 64 := by rw [hz]; exact wid_le m hm
  obtain ⟨ns, hns⟩ : ∃ s, s = L z := ⟨_, rfl⟩
  obtain ⟨al, has⟩ : ∃ s, s = L (cN m) := ⟨_, rfl⟩
  obtain ⟨ms, hms⟩ : ∃ s, s = L m := ⟨_, rfl⟩
  have lns : ns.length ≤ 1 := by rw [hns]; exact L_len _ 1 (by omega)
  have las : al.length ≤ 2 := by rw [has]; exact (cN_fits m hm).len
  have lms : ms.length ≤ 1 := by rw [hms]; exact L_len _ 1 (by omega)
  have HW := Lib.hid (fun w1 => width1 m w1 hm z hz)
  have HO := Lib.hid (fun w1 => nof (zs := ns) z w1 (by omega) hns)
  have HS := Lib.hid (fun (w1 : World) (p : Option Addr) (c : Nat) (h : Rd w1 p c ns) => NR.shl_ok (zs := al) h rfl (by omega) z (by omega) (by rw [hns, V_L, has, hz]; rfl))
  have HO2 := Lib.hid (fun w1 => nof (zs := ms) m w1 hm hms)
  have HR := Lib.hid (fun (w1 : World) (p q : Option Addr) (c d : Nat) (h1 : Rd w1 p c al) (h2 : Rd w1 q d ms) => rmake (us := us) (vs := vs) h1 h2 rfl rfl (by omega) (by omega) (cN m) m (by rw [has, V_L]) (by rw [hms, V_L]) h0 hu hv)
  have hw : IntKind.u64.wrap (z : Int) = (z : Int) := W.wrapN _ (by omega)
  have h1 : ((m : Int) == 0) = false := by rw [beq_eq_false_iff_ne]; omega
  have R0 := Lib.hid (Rs.new w #[.bool false, .slice none 0 0, .slice none 0 0] 49)
  clear hz hns has hms hu hv
  go_enter Tryz.func28, Tryz.ntmps28
  go_wp2_with fail
  generalize (w.alloc (.cells #[.bool false, .slice none 0 0, .slice none 0 0] 49)) = W0 at *
  refine (HW.out _).mono ?_; rintro e W1 ⟨rfl, rfl⟩
  clear HW
  go_wp2_with fail
  refine (HO.out _).mono ?_; rintro e W1 ⟨p1, d1, rfl, ho, hb⟩
  have R1 := Lib.hid (R0.out.nx hb)
  have HQ1 := Lib.hid ho.rd
  clear HO R0 ho hb
  go_wp2_with fail
  refine (HS.out _ p1 d1 HQ1.out).mono ?_; rintro e W2 ⟨p2, d2, rfl, ho, hb⟩
  have R2 := Lib.hid (R1.out.nx hb)
  have HQ2 := Lib.hid ho.rd
  clear HS R1 ho hb HQ1
  go_wp2_with fail
  refine (HO2.out _).mono ?_; rintro e W3 ⟨p3, d3, rfl, ho, hb⟩
  have R3 := Lib.hid (R2.out.nx hb)
  have HQ3 := Lib.hid ho.rd
  replace HQ2 := Lib.hid (HQ2.out.nx hb)
  clear HO2 R2 ho hb
  go_wp2_with fail
  refine (HR.out _ p2 p3 d2 d3 HQ2.out HQ3.out).mono ?_; rintro e W4 ⟨p5, d5, p6, d6, rfl, ho5, ho6, hb⟩
  have R4 := Lib.hid (R3.out.nx hb)
  have HO5 := Lib.hid (ho5.mono R3.out.sz)
  have HO6 := Lib.hid (ho6.mono R3.out.sz)
  clear HR R3 ho5 ho6 hb HQ2 HQ3
  have c0 := R4.out.rb.c 0
  have c1 := R4.out.rb.c 1
  have c2 := R4.out.rb.c 2
  have f0 := R4.out.rb.f 0
  have f1 := R4.out.rb.f 1
  have f2 := R4.out.rb.f 2
  go_wp2_with fail
  have RB := R4.out.rb.put3 (.bool false) (.slice p5 us.length d5) (.slice p6 vs.length d6)
  unfold RA.put3 at RB
  have z0 := RB.c 0
  have z1 := RB.c 1
  have z2 := RB.c 2
  refine bodyPost_ret (v := .tuple #[.agg #[.bool false, .slice p5 us.length d5, .slice p6 vs.length d6], .int .i64 0]) (by simp [results, Tryz.results28, go_sem, z0, z1, z2]) rfl ?_
  exact ⟨_, _, _, _, rfl, (HO5.out.put3 (by omega) _ _ _).mono (by omega), (HO6.out.put3 (by omega) _ _ _).mono (by omega), RA.Kp.put3 R4.out.kw (by omega) _ _ _⟩
/-- there is no cost below 0 -/
def NoRat (c : Int) (w : World) (e : Ending) (w' : World) : Prop := e = .returned (.tuple #[.agg #[.bool false, .slice none 0 0, .slice none 0 0], .int .i64 c]) ∧ Kp w w'
theorem cost1_no (w : World) : Calls Tryz.prog 28 #[.int .u64 0] w (NoRat 1 w) := by
  have R0 := Lib.hid (Rs.new w #[.bool false, .slice none 0 0, .slice none 0 0] 49)
  go_enter Tryz.func28, Tryz.ntmps28
  go_wp2_with fail
  have z0 := R0.out.rb.c 0
  have z1 := R0.out.rb.c 1
  have z2 := R0.out.rb.c 2
  refine bodyPost_ret (v := .tuple #[.agg #[.bool false, .slice none 0 0, .slice none 0 0], .int .i64 1]) (by simp [results, Tryz.results28, go_sem, z0, z1, z2]) rfl ?_
  exact ⟨rfl, R0.out.kw⟩
theorem take_nil (m : Nat) (w : World) (hm : m < 18446744073709551616) :
    Calls Tryz.prog 25 #[.pointer none, .int .u64 (m : Int)] w fun e w' => e = .returned (.tuple #[.int .u64 0, .bool false]) ∧ w = w' := by
  by_cases h0 : m = 0
  · subst h0
    show Calls Tryz.prog 25 #[.pointer none, .int .u64 0] w _
    go_enter Tryz.func25, Tryz.ntmps25
    go_wp2_with fail
    go_ret2
    exact ⟨rfl, rfl⟩
  · have h1 : ¬ ((m : Int) = 0) := by omega
    obtain ⟨z, hz⟩ : ∃ z, z = wid m := ⟨_, rfl⟩
    have HW := Lib.hid (width1 m w hm z hz)
    clear hz
    go_enter Tryz.func25, Tryz.ntmps25
    go_wp2_with fail
    refine Calls.mono (R := fun e w' => e = .returned (.tuple #[.int .u64 0, .bool false]) ∧ w = w') ?_ ?_
    · go_enter Tryz.func37, Tryz.ntmps37
      go_wp2_with fail
      refine HW.out.mono ?_; rintro e w' ⟨rfl, rfl⟩
      go_wp2_with fail
      go_loopw [7] (fun _ wr => w = wr) (fun _ _ => 0)
      case atStart => rfl
      case round =>
        obtain rfl := hrel
        go_wp2_with fail
        refine (take1_nil _ _).mono ?_; rintro e w' ⟨rfl, rfl⟩
        go_wp2_with fail
        go_ret2
        exact ⟨rfl, rfl⟩
    · rintro e w' ⟨rfl, rfl⟩
      go_wp2_with fail
      go_ret2
      exact ⟨rfl, rfl⟩
end Go.Proofs.BL
