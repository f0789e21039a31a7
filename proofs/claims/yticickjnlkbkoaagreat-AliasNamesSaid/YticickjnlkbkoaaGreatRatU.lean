/- Fractions that are not below 0: the document's sums. -/
import Derived.Test.YticickjnlkbkoaaGreatRatI
namespace Go.Proofs.RA
open Go.RowKit
open Go.Proofs
open Go.Proofs.NP
open Go.Proofs.SL
open Go.Proofs.NR (Fits GivesE)
set_option linter.unusedVariables false
set_option linter.unusedSimpArgs false
set_option maxRecDepth 20000
variable {w : World} {a b a' b' : Option Addr} {ca cb ca' cb' l k l' k' : Nat} {xs ys zs us vs xs' ys' us' vs' ps qs : List Nat}
set_option maxHeartbeats 1000000 in
theorem fcount (hx : Rd w a ca xs) (hy : Rd w b cb ys) (lx : xs.length = l) (ly : ys.length = k) (h : l ≤ 1000) (h' : k ≤ 1000) (X Y : Nat) (hX : V xs = X) (hY : V ys = Y) (h0 : Y ≠ 0) (hu : us = L (X / Nat.gcd X Y)) (hv : vs = L (Y / Nat.gcd X Y)) :
    Calls Tryz.prog 17 #[.agg #[.bool false, .slice a l ca, .slice b k cb]] w (GivesR1 w us vs) := by
  have HM := Lib.hid (fun (w1 : World) (hx : Rd w1 a ca xs) (hy : Rd w1 b cb ys) => fmake (us := us) (vs := vs) hx hy lx ly h h' X Y hX hY h0 hu hv)
  have R0 := Lib.hid (R2.new w #[.bool false, .slice a l ca, .slice b k cb] 49 #[.bool false, .slice none 0 0, .slice none 0 0] 49)
  have HX := Lib.hid hx
  have HY := Lib.hid hy
  clear hx hy lx ly hX hY h0 hu hv
  go_enter Tryz.func17, Tryz.ntmps17
  go_wp2_with fail
  generalize ((w.alloc (.cells #[.bool false, .slice a l ca, .slice b k cb] 49)).alloc (.cells #[.bool false, .slice none 0 0, .slice none 0 0] 49)) = W0 at *
  refine (HM.out _ (HX.out.nx R0.out.kw) (HY.out.nx R0.out.kw)).mono ?_; rintro e W1 ⟨p1, d1, p2, d2, rfl, ho1, ho2, hb⟩
  have HO1 := Lib.hid (ho1.mono R0.out.sz)
  have HO2 := Lib.hid (ho2.mono R0.out.sz)
  have R1 := Lib.hid (R0.out.nx hb)
  have KA := (Kp.refl W1).al (.cells #[.bool false, .slice p1 us.length d1, .slice p2 vs.length d2] 49)
  have BV := Lib.hid (Bk.new W1 #[.bool false, .slice p1 us.length d1, .slice p2 vs.length d2] 49)
  replace HO1 := Lib.hid (HO1.out.nx KA)
  replace HO2 := Lib.hid (HO2.out.nx KA)
  replace R1 := Lib.hid (R1.out.nx KA)
  have f0 := R1.out.b2.f 0
  have f1 := R1.out.b2.f 1
  have f2 := R1.out.b2.f 2
  have r0 := R1.out.b2.c 0
  have r1 := R1.out.b2.c 1
  have r2 := R1.out.b2.c 2
  clear HM R0 ho1 ho2 hb KA HX HY
  go_wp2_with fail
  have RB := R1.out.b2.put3 (.bool false) (.slice p1 us.length d1) (.slice p2 vs.length d2)
  unfold RA.put3 at RB
  have z0 := RB.c 0
  have z1 := RB.c 1
  have z2 := RB.c 2
  refine bodyPost_ret (v := .agg #[.bool false, .slice p1 us.length d1, .slice p2 vs.length d2]) (by simp [results, Tryz.results17, go_sem, z0, z1, z2]) rfl ?_
  exact ⟨_, _, _, _, rfl, (HO1.out.put3 (by omega) _ _ _).mono (by omega), (HO2.out.put3 (by omega) _ _ _).mono (by omega), Kp.put3 R1.out.kw (by omega) _ _ _⟩
/-- ways that come to the same state go on as one: a box -/
theorem joinB {goal : Prop} (F G : World → Nat → Option Addr → Nat → Prop) (h : (∀ W g p d, F W g p d → G W g p d) → goal) (key : ∀ W g p d, F W g p d → G W g p d) : goal := h key
end Go.Proofs.RA
