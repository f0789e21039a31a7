/- Alias tables: New of weights that are none; the examples that every statement asks. -/
import Derived.Test.YticickjnlkbkoaaGreatAliC
import Derived.Test.YticickjnlkbkoaaGreatAliE
import Derived.Test.YticickjnlkbkoaaGreatAliF
namespace Go.Proofs.AL
open Go.RowKit
open Go.Proofs
open Go.Proofs.NP
open Go.Proofs.SL
open Go.Proofs.RA
open Go.Proofs.BL
open Go
set_option linter.unusedVariables false
set_option linter.unusedSimpArgs false
set_option maxRecDepth 20000
theorem new_no (ws : List Int) (a : Option Addr) (c : Nat) (w : World) (hr : Ri w a ws) (hl : ws.length ≤ 9223372036854775807) (z : Int) (hz : z = whyW ws) (h0 : z ≠ 0) :
    Calls Tryz.prog 5 #[.slice a ws.length c] w fun e w' => e = .returned (.tuple #[.pointer none, .int .i64 z]) ∧ w = w' := by
  have HW := Lib.hid (wrong1 ws a c w hr hl z hz)
  have h1 : (z == 0) = false := by rw [beq_eq_false_iff_ne]; exact h0
  clear hr hz
  go_enter Tryz.func5, Tryz.ntmps5
  go_wp2_with fail
  refine HW.out.mono ?_; rintro e w' ⟨rfl, rfl⟩
  clear HW
  go_wp2_with fail
  go_ret2
  exact ⟨rfl, rfl⟩
theorem ri_two (w : World) (x y : Int) : Ri (w.alloc (.cells #[.int .i64 x, .int .i64 y] 2)) (some ⟨w.heap.size, 0, none⟩) [x, y] := by
  have h := Bk.new w #[.int .i64 x, .int .i64 y] 2
  refine ⟨.inr ⟨w.heap.size, 0, rfl, h.lt, fun i hi => ?_⟩⟩
  match i, hi with
  | 0, _ => exact h.c 0
  | 1, _ => exact h.c 1
set_option maxHeartbeats 8000000 in
theorem awake (w : World) : Calls Tryz.prog 4 #[] w fun e w' => e = .returned (.bool true) ∧ Kp w w' := by
  obtain ⟨u3, hu3⟩ : ∃ s, s = L 3 := ⟨_, rfl⟩
  obtain ⟨v4, hv4⟩ : ∃ s, s = L 4 := ⟨_, rfl⟩
  obtain ⟨v1, hv1⟩ : ∃ s, s = [1] := ⟨_, rfl⟩
  have l3 : u3.length ≤ 1 := by rw [hu3]; exact L_len _ 1 (by decide)
  have l4 : v4.length ≤ 1 := by rw [hv4]; exact L_len _ 1 (by decide)
  have l1 : v1.length ≤ 1 := by rw [hv1]; decide
  have N1 := Lib.hid (fun (W : World) (a : Option Addr) (c : Nat) (h : Ri W a [1, 3]) => show Calls Tryz.prog 5 #[.slice a 2 c] W (fun e w' => ∃ g gc go, e = .returned (.tuple #[.pointer (some ⟨g, 0, none⟩), .int .i64 0]) ∧ Tb w' g gc go 2 (4 : Nat) (table 2 (wf [1, 3])).cu (table 2 (wf [1, 3])).ot ∧ Ap W.heap.size g gc go ∧ Kp W w') from new1 [1, 3] a c W h (by decide) (by decide +kernel))
  have N2 := Lib.hid (fun (W : World) => show Calls Tryz.prog 5 #[.slice none 0 0] W (fun e w' => e = .returned (.tuple #[.pointer none, .int .i64 4]) ∧ W = w') from new_no [] none 0 W ⟨.inl rfl⟩ (by decide) 4 (by decide +kernel) (by decide))
  have N3 := Lib.hid (fun (W : World) (a : Option Addr) (c : Nat) (h : Ri W a [0, 0]) => show Calls Tryz.prog 5 #[.slice a 2 c] W (fun e w' => e = .returned (.tuple #[.pointer none, .int .i64 7]) ∧ W = w') from new_no [0, 0] a c W h (by decide) 7 (by decide +kernel) (by decide))
  have O3 := Lib.hid (fun w1 => show Calls Tryz.prog 21 #[.int .i64 3] w1 (GivesR1 w1 u3 v1) from rof' 3 w1 (by decide) hu3 hv1)
  have C4 := Lib.hid (fun w1 => show Calls Tryz.prog 20 #[.int .i64 3, .int .i64 4] w1 (GivesRat w1 u3 v4) from rover 3 4 w1 (by decide) (by decide) (by decide) (by rw [hu3]; exact congrArg L (by decide +kernel)) (by rw [hv4]; exact congrArg L (by decide +kernel)))
  generalize hcu : (table 2 (wf [1, 3])).cu = cu at *
  generalize hot : (table 2 (wf [1, 3])).ot = ot at *
  have cu0 : cu 0 = 2 := by rw [← hcu]; decide +kernel
  have cu1 : cu 1 = 4 := by rw [← hcu]; decide +kernel
  have ot0 : ot 0 = 1 := by rw [← hot]; decide +kernel
  have ot1 : ot 1 = 1 := by rw [← hot]; decide +kernel
  clear hcu hot
  have T1 := Lib.hid (fun (W : World) (g gc go : Nat) (h : Tb W g gc go 2 (4 : Nat) cu ot) => show Calls Tryz.prog 6 #[.pointer (some ⟨g, 0, none⟩), .int .i64 0] W (fun e w' => e = .returned (.tuple #[.int .i64 2, .int .i64 0]) ∧ W = w') from by have := cut1 0 h (by decide) (by decide) (by decide); rw [cu0] at this; exact this)
  have T2 := Lib.hid (fun (W : World) (g gc go : Nat) (h : Tb W g gc go 2 (4 : Nat) cu ot) => show Calls Tryz.prog 7 #[.pointer (some ⟨g, 0, none⟩), .int .i64 0] W (fun e w' => e = .returned (.tuple #[.int .i64 1, .int .i64 0]) ∧ W = w') from by have := other1 0 h (by decide) (by decide) (by decide); rw [ot0] at this; exact this)
  have T3 := Lib.hid (fun (W : World) (g gc go : Nat) (h : Tb W g gc go 2 (4 : Nat) cu ot) => show Calls Tryz.prog 6 #[.pointer (some ⟨g, 0, none⟩), .int .i64 1] W (fun e w' => e = .returned (.tuple #[.int .i64 4, .int .i64 0]) ∧ W = w') from by have := cut1 1 h (by decide) (by decide) (by decide); rw [cu1] at this; exact this)
  have T4 := Lib.hid (fun (W : World) (g gc go : Nat) (h : Tb W g gc go 2 (4 : Nat) cu ot) => show Calls Tryz.prog 7 #[.pointer (some ⟨g, 0, none⟩), .int .i64 1] W (fun e w' => e = .returned (.tuple #[.int .i64 1, .int .i64 0]) ∧ W = w') from by have := other1 1 h (by decide) (by decide) (by decide); rw [ot1] at this; exact this)
  have T5 := Lib.hid (fun (W : World) (g gc go : Nat) (h : Tb W g gc go 2 (4 : Nat) cu ot) => show Calls Tryz.prog 9 #[.pointer (some ⟨g, 0, none⟩), .int .i64 0, .int .i64 1] W (fun e w' => e = .returned (.tuple #[.int .i64 0, .int .i64 0]) ∧ W = w') from pick1 0 1 h (by decide) (by decide) (by decide) (by decide) (by decide) 0 (by rw [cu0]; rfl))
  have T6 := Lib.hid (fun (W : World) (g gc go : Nat) (h : Tb W g gc go 2 (4 : Nat) cu ot) => show Calls Tryz.prog 9 #[.pointer (some ⟨g, 0, none⟩), .int .i64 0, .int .i64 2] W (fun e w' => e = .returned (.tuple #[.int .i64 1, .int .i64 0]) ∧ W = w') from pick1 0 2 h (by decide) (by decide) (by decide) (by decide) (by decide) 1 (by rw [cu0, ot0]; rfl))
  have T7 := Lib.hid (fun (W : World) (g gc go : Nat) (h : Tb W g gc go 2 (4 : Nat) cu ot) => show Calls Tryz.prog 10 #[.pointer (some ⟨g, 0, none⟩), .int .i64 1] W (GivesRat W u3 v4) from tshare 4 1 6 h (by decide) (by decide) (by decide) (fun k hk => by
    match k, hk with
    | 0, _ => rw [cu0]; decide
    | 1, _ => rw [cu1]; decide) (by simp only [shs]; rw [cu0, cu1, ot0, ot1]; rfl) (by rw [hu3]; exact congrArg L (by decide +kernel)) (by rw [hv4]; exact congrArg L (by decide +kernel)))
  have T8 := Lib.hid (fun (W : World) (g gc go : Nat) (h : Tb W g gc go 2 (4 : Nat) cu ot) => tcost (ps := u3) (qs := v1) 4 h (by decide) (by decide) 1 1 2 1 3 1 (by decide +kernel) (by decide +kernel) (by decide +kernel) (by decide +kernel) (by decide +kernel) (by decide +kernel) (by rw [hu3]; exact congrArg L (by decide +kernel)) (by rw [hv1, ← L1]; exact congrArg L (by decide +kernel)))
  clear hu3 hv4 hv1 cu0 cu1 ot0 ot1
  go_enter Tryz.func4, Tryz.ntmps4
  go_wp2_with fail
  have R1 := Lib.hid (ri_two w 1 3)
  have K0 := Lib.hid ((Kp.refl w).al (.cells #[.int .i64 1, .int .i64 3] 2))
  generalize (w.alloc (.cells #[.int .i64 1, .int .i64 3] 2)) = W0 at *
  refine (N1.out _ _ _ R1.out).mono ?_; rintro e W1 ⟨g, gc, go, rfl, hT, -, hb⟩
  have HT := Lib.hid hT
  have K := Lib.hid (Kp.nx K0.out hb)
  clear N1 R1 K0 hT hb
  go_wp2_with fail
  refine (N2.out _).mono ?_; rintro e w' ⟨rfl, rfl⟩
  clear N2
  go_wp2_with fail
  have R1 := Lib.hid (ri_two W1 0 0)
  have KA := ((Kp.refl W1).al (.cells #[.int .i64 0, .int .i64 0] 2))
  replace HT := Lib.hid (HT.out.nx KA)
  replace K := Lib.hid (Kp.nx K.out KA)
  clear KA
  generalize (W1.alloc (.cells #[.int .i64 0, .int .i64 0] 2)) = W2 at *
  refine (N3.out _ _ _ R1.out).mono ?_; rintro e w' ⟨rfl, rfl⟩
  clear N3 R1
  go_wp2_with fail
  refine (T1.out _ _ _ _ HT.out).mono ?_; rintro e w' ⟨rfl, rfl⟩
  go_wp2_with fail
  refine (T2.out _ _ _ _ HT.out).mono ?_; rintro e w' ⟨rfl, rfl⟩
  go_wp2_with fail
  refine (T3.out _ _ _ _ HT.out).mono ?_; rintro e w' ⟨rfl, rfl⟩
  go_wp2_with fail
  refine (T4.out _ _ _ _ HT.out).mono ?_; rintro e w' ⟨rfl, rfl⟩
  go_wp2_with fail
  refine (T5.out _ _ _ _ HT.out).mono ?_; rintro e w' ⟨rfl, rfl⟩
  go_wp2_with fail
  refine (T6.out _ _ _ _ HT.out).mono ?_; rintro e w' ⟨rfl, rfl⟩
  go_wp2_with fail
  refine (T7.out _ _ _ _ HT.out).mono ?_; rintro e W3 ⟨p1, c1, q1, d1, rfl, ho, hq, hb⟩
  have X := Lib.hid (RatV.new ho.rd hq.rd)
  have KA := (Kp.nx hb ((Kp.refl _).al (.cells #[.bool false, .slice p1 u3.length c1, .slice q1 v4.length d1] 49)))
  replace HT := Lib.hid (HT.out.nx KA)
  replace K := Lib.hid (Kp.nx K.out KA)
  clear T1 T2 T3 T4 T5 T6 T7 ho hq hb KA
  go_wp2_with fail
  generalize (W3.alloc (.cells #[.bool false, .slice p1 u3.length c1, .slice q1 v4.length d1] 49)) = W4 at *
  refine (C4.out _).mono ?_; rintro e W5 ⟨p2, c2, q2, d2, rfl, ho, hq, hb⟩
  have Y := Lib.hid (RatV.new ho.rd hq.rd)
  have KA := (Kp.nx hb ((Kp.refl _).al (.cells #[.bool false, .slice p2 u3.length c2, .slice q2 v4.length d2] 49)))
  replace HT := Lib.hid (HT.out.nx KA)
  replace X := Lib.hid (X.out.nx KA)
  replace K := Lib.hid (Kp.nx K.out KA)
  obtain ⟨x0, x1, x2⟩ := X.out.cs
  obtain ⟨y0, y1, y2⟩ := Y.out.cs
  clear C4 ho hq hb KA
  go_wp2_with fail
  refine (is6 X.out.ru Y.out.ru X.out.rv Y.out.rv rfl rfl (by omega) (by omega)).mono ?_; rintro e W6 ⟨rfl, hb⟩
  replace HT := Lib.hid (HT.out.nx hb)
  replace K := Lib.hid (Kp.nx K.out hb)
  clear X Y x0 x1 x2 y0 y1 y2 hb
  go_wp2_with fail
  refine (T8.out _ _ _ _ HT.out).mono ?_; rintro e W7 ⟨p3, c3, q3, d3, rfl, ho, hq, hb⟩
  have Z1 := Lib.hid ho.rd
  have Z2 := Lib.hid hq.rd
  replace HT := Lib.hid (HT.out.nx hb)
  replace K := Lib.hid (Kp.nx K.out hb)
  clear T8 ho hq hb
  go_wp2_with fail
  refine (O3.out _).mono ?_; rintro e W8 ⟨p4, c4, q4, d4, rfl, ho, hq, hb⟩
  replace HT := Lib.hid (HT.out.nx hb)
  replace K := Lib.hid (Kp.nx K.out hb)
  have HI := Lib.hid (is6 (Z1.out.nx hb) ho.rd (Z2.out.nx hb) hq.rd rfl rfl (by omega) (by omega))
  clear O3 ho hq hb Z1 Z2
  go_wp2_with fail
  refine HI.out.mono ?_; rintro e W9 ⟨rfl, hb⟩
  replace HT := Lib.hid (HT.out.nx hb)
  replace K := Lib.hid (Kp.nx K.out hb)
  clear HI hb
  go_wp2_with fail
  refine (len1 HT.out).mono ?_; rintro e w' ⟨rfl, rfl⟩
  go_wp2_with fail
  refine (sum1 HT.out).mono ?_; rintro e w' ⟨rfl, rfl⟩
  go_wp2_with fail
  go_ret
  exact ⟨rfl, K.out⟩
end Go.Proofs.AL
