/- Whole numbers that are not below 0: sums, by the row of ways. -/
import Derived.Test.YticickjnlkbkoaaGreatRatG
import Derived.Laws.EntriesVeiled
namespace Go.Proofs.RA
open Go.RowKit
open Go.Proofs
open Go.Proofs.NP
open Go.Proofs.SL
open Go.Proofs.NR (Fits GivesE)
set_option linter.unusedVariables false
set_option linter.unusedSimpArgs false
set_option maxRecDepth 20000
variable {w : World} {a b a' b' : Option Addr} {ca cb ca' cb' l k l' k' : Nat} {xs ys zs us vs xs' ys' us' vs' : List Nat}
theorem way_is (x y : Value) (w : World) :
    Calls Tryz.prog 85 #[.agg #[.bool false, .slice a l ca], .agg #[.bool false, .slice b k cb]] w fun e w' => e = .returned (.bool true) ∧ Kp w w' := by
  have K0 := Lib.hid (R2.new w #[.bool false, .slice a l ca] 47 #[.bool false, .slice b k cb] 47).kw
  go_enter Tryz.func85, Tryz.ntmps85
  go_wp2_with fail
  go_ret
  exact ⟨rfl, K0.out⟩
set_option maxHeartbeats 1000000 in
theorem way_do (hx : Rd w a ca xs) (hy : Rd w b cb ys) (lx : xs.length = l) (ly : ys.length = k) (h : l ≤ 2000) (h' : k ≤ 2000) (hz : zs = L (V xs + V ys)) :
    Calls Tryz.prog 86 #[.agg #[.bool false, .slice a l ca], .agg #[.bool false, .slice b k cb]] w fun e w' => ∃ p c, e = .returned (.tuple #[.bool false, .slice p zs.length c]) ∧ Rd w' p c zs ∧ Kp w w' := by
  have HA := Lib.hid (fun (W : World) (hx : Rd W a ca xs) (hy : Rd W b cb ys) => NR.add (zs := zs) hx hy lx ly (by omega) (by omega) hz)
  have R0 := Lib.hid (R2.new w #[.bool false, .slice a l ca] 47 #[.bool false, .slice b k cb] 47)
  have HX := Lib.hid hx
  have HY := Lib.hid hy
  clear hx hy lx ly hz
  go_enter Tryz.func86, Tryz.ntmps86
  go_wp2_with fail
  generalize ((w.alloc (.cells #[.bool false, .slice a l ca] 47)).alloc (.cells #[.bool false, .slice b k cb] 47)) = V at *
  have HV := Lib.hid (fun (W' : World) (hk : Kp V W') => show R2 w W' #[.bool false, .slice a l ca] 47 #[.bool false, .slice b k cb] 47 ∧ Rd W' a ca xs ∧ Rd W' b cb ys from ⟨R0.out.nx hk, HX.out.nx (Kp.nx R0.out.kw hk), HY.out.nx (Kp.nx R0.out.kw hk)⟩)
  clear R0 HX HY
  go_region_held3 (fun W => W.cell? ⟨w.heap.size, 0, none⟩ = some (.bool false) ∧ W.cell? ⟨w.heap.size, 1, none⟩ = some (.slice a l ca) ∧ W.cell? ⟨w.heap.size + 1, 1, none⟩ = some (.slice b k cb))
    (first
      | exact ⟨(HV.out _ (Kp.refl _)).1.b1.c 0, (HV.out _ (Kp.refl _)).1.b1.c 1, (HV.out _ (Kp.refl _)).1.b2.c 1⟩
      | exact ⟨(HV.out _ (Kp.refl _).dr1).1.b1.c 0, (HV.out _ (Kp.refl _).dr1).1.b1.c 1, (HV.out _ (Kp.refl _).dr1).1.b2.c 1⟩
      | exact ⟨(HV.out _ k3).1.b1.c 0, (HV.out _ k3).1.b1.c 1, (HV.out _ k3).1.b2.c 1⟩)
    (first
      | (go_at_call 87; refine (HA.out _ (HV.out _ (Kp.refl _).dr1).2.1 (HV.out _ (Kp.refl _).dr1).2.2).mono ?_; rintro e W3 ⟨p3, d3, rfl, ho3, hb3⟩; have k3 := Kp.nx (Kp.refl V).dr1 hb3))
  have HF := Lib.hid (show Rd W3 p3 d3 zs ∧ Kp w W3 from ⟨ho3.rd, (HV.out _ k3).1.kw⟩)
  clear HV HA ho3 hb3 k3
  go_wp2_with fail
  go_ret2
  exact ⟨_, _, rfl, HF.out⟩
/-- the row of ways -/
def waysC : Array Value := #[.func (.func 85) #[] #[], .func (.func 86) #[] #[], .func (.func 88) #[] #[], .func (.func 89) #[] #[], .func (.func 91) #[] #[], .func (.func 92) #[] #[]]
theorem ways (w : World) : Calls Tryz.prog 69 #[] w fun e w' => e = .returned (.slice (some ⟨w.heap.size, 0, none⟩) 3 3) ∧ Bk w' w.heap.size waysC 107 ∧ Kp w w' := by
  have HB := Lib.hid (Bk.new w waysC 107)
  have K0 := Lib.hid ((Kp.refl w).al (.cells waysC 107))
  unfold waysC at HB K0
  go_enter Tryz.func69, Tryz.ntmps69
  go_wp2_with fail
  go_ret
  exact ⟨rfl, HB.out, K0.out⟩
set_option maxHeartbeats 1000000 in
theorem wadd (hx : Rd w a ca xs) (hy : Rd w b cb ys) (lx : xs.length = l) (ly : ys.length = k) (h : l ≤ 2000) (h' : k ≤ 2000) (hz : zs = L (V xs + V ys)) (lz : zs.length ≤ 5000) :
    Calls Tryz.prog 46 #[.agg #[.bool false, .slice a l ca], .agg #[.bool false, .slice b k cb]] w (GivesW w zs) := by
  have HD := Lib.hid (fun (W : World) (hx : Rd W a ca xs) (hy : Rd W b cb ys) => way_do (zs := zs) hx hy lx ly h h' hz)
  have HM := Lib.hid (fun (W : World) (p : Option Addr) (c : Nat) (hg : Rd W p c zs) => wmake (zs := zs) hg rfl (by omega) (by rw [hz, V_L]))
  have R0 := Lib.hid (R3.new w #[.bool false, .slice a l ca] 47 #[.bool false, .slice b k cb] 47 #[.bool false, .slice none 0 0] 47)
  have HX := Lib.hid hx
  have HY := Lib.hid hy
  clear hx hy lx ly hz
  go_enter Tryz.func46, Tryz.ntmps46
  go_wp2_with fail
  generalize (((w.alloc (.cells #[.bool false, .slice a l ca] 47)).alloc (.cells #[.bool false, .slice b k cb] 47)).alloc (.cells #[.bool false, .slice none 0 0] 47)) = V at *
  have HV := Lib.hid (fun (W' : World) (hk : Kp V W') => show R3 w W' #[.bool false, .slice a l ca] 47 #[.bool false, .slice b k cb] 47 #[.bool false, .slice none 0 0] 47 ∧ Rd W' a ca xs ∧ Rd W' b cb ys from ⟨R0.out.nx hk, HX.out.nx (Kp.nx R0.out.kw hk), HY.out.nx (Kp.nx R0.out.kw hk)⟩)
  clear R0 HX HY
  refine (ways _).mono ?_; rintro e W1 ⟨rfl, hbk, hb⟩
  have HB := Lib.hid hbk
  have K1 := Lib.hid hb
  obtain ⟨g, hg⟩ : ∃ g, V.heap.size = g := ⟨_, rfl⟩
  rw [hg] at HB
  simp only [hg]
  clear hbk hb hg
  go_wp2_with fail
  have b0 : W1.cell? ⟨g, 0, none⟩ = some (.func (.func 85) #[] #[]) := HB.out.c 0
  have b1 : W1.cell? ⟨g, 1, none⟩ = some (.func (.func 86) #[] #[]) := HB.out.c 1
  go_loopw [9] (fun s9 wr => s9 = .int .i64 0 ∧ W1 = wr) (fun _ _ => 0)
  case atStart => exact ⟨rfl, rfl⟩
  case round =>
    obtain ⟨rfl, rfl⟩ := hrel
    have BN := Bk.new W1 #[.nilFunc, .nilFunc] 107
    have n0 := BN.c 0
    have n1 := BN.c 1
    have m0 := BN.f 0
    have m1 := BN.f 1
    have BVH := Lib.hid (Bk.new W1 #[.func (.func 85) #[] #[], .func (.func 86) #[] #[]] 107)
    have k2 : Kp V (W1.alloc (.cells #[.func (.func 85) #[] #[], .func (.func 86) #[] #[]] 107)) := K1.out.al _
    have HV2 := Lib.hid (fun (W' : World) (hk : Kp (W1.alloc (.cells #[.func (.func 85) #[] #[], .func (.func 86) #[] #[]] 107)) W') => HV.out W' (Kp.nx k2 hk))
    clear k2 BN
    go_upto_region 4 with fail
    generalize (W1.alloc (.cells #[.func (.func 85) #[] #[], .func (.func 86) #[] #[]] 107)) = V1 at *
    obtain ⟨g2, hg2⟩ : ∃ g, W1.heap.size = g := ⟨_, rfl⟩
    simp only [hg2] at BVH ⊢
    clear n0 n1 m0 m1 b0 b1 HB K1 HV hg2
    have q := (HV2.out _ (Kp.refl _)).1
    have q0 := q.b1.c 0
    have q1 := q.b1.c 1
    have q2 := q.b2.c 0
    have q3 := q.b2.c 1
    have q4 : V1.cell? ⟨g2, 0, none⟩ = some (.func (.func 85) #[] #[]) := BVH.out.c 0
    have q5 : V1.cell? ⟨g2, 1, none⟩ = some (.func (.func 86) #[] #[]) := BVH.out.c 1
    clear q
    go_wp2_with fail
    refine (way_is undef undef _).mono ?_; rintro e W3 ⟨rfl, hb⟩
    have q := (HV2.out _ hb).1
    have BV3 := BVH.out.nx hb
    have D3 := Lib.hid (HD.out _ (HV2.out _ hb).2.1 (HV2.out _ hb).2.2)
    have K3 := Lib.hid hb
    clear q0 q1 q2 q3 q4 q5 hb HD
    have q0 := q.b1.c 0
    have q1 := q.b1.c 1
    have q2 := q.b2.c 0
    have q3 := q.b2.c 1
    have q5 : W3.cell? ⟨g2, 1, none⟩ = some (.func (.func 86) #[] #[]) := BV3.c 1
    clear q BV3
    go_wp2_with fail
    refine D3.out.mono ?_; rintro e W4 ⟨p4, d4, rfl, ho4, hb⟩
    have K4 := Lib.hid (Kp.nx K3.out hb)
    have M4 := Lib.hid (HM.out _ p4 d4 ho4)
    clear q0 q1 q2 q3 q5 D3 ho4 hb HM K3
    go_wp2_with fail
    refine M4.out.mono ?_; rintro e W5 ⟨p5, d5, rfl, ho5, hb⟩
    have H4 := Lib.hid (HV2.out _ (Kp.nx K4.out hb)).1
    have HO5 := Lib.hid (ho5.mono (HV2.out _ K4.out).1.sz)
    have f0 := H4.out.b3.f 0
    have f1 := H4.out.b3.f 1
    have r0 := H4.out.b3.c 0
    have r1 := H4.out.b3.c 1
    clear M4 ho5 hb HV2 K4
    go_wp2_with fail
    have RB := (set3s H4.out (.bool false) (.slice p5 zs.length d5)).2.2
    have z0 := RB.c 0
    have z1 := RB.c 1
    refine bodyPost_ret (v := .agg #[.bool false, .slice p5 zs.length d5]) (by simp [results, Tryz.results46, go_sem, z0, z1]) rfl ?_
    exact ⟨_, _, rfl, ((HO5.out.set (by omega) 0 _).set (by omega) 1 _).mono (by omega), (H4.out.kw.setCell (p := ⟨w.heap.size + 1 + 1, 0, none⟩) (show w.heap.size ≤ w.heap.size + 1 + 1 by omega) _).setCell (p := ⟨w.heap.size + 1 + 1, 1, none⟩) (show w.heap.size ≤ w.heap.size + 1 + 1 by omega) _⟩
end Go.Proofs.RA
