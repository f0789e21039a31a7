/- Below: the examples that every statement asks: awake answers true. -/
import Derived.Test.YtelanfafgcnpmaaBelE
import Derived.Deep.RegionHeld3
namespace Go.Proofs.BL
open Go.RowKit
open Go.Proofs
open Go.Proofs.BT
open Go.Proofs.SL
open Go.Proofs.RA
open Go.Proofs.NR (Fits GivesE)
open Go
set_option linter.unusedVariables false
set_option linter.unusedSimpArgs false
set_option maxRecDepth 20000
variable {w : World} {us vs : List Nat}
/-- a variable that holds a fraction -/
structure RatV (W : World) (g : Nat) (p q : Option Addr) (c d : Nat) (us vs : List Nat) : Prop where
  bk : Bk W g #[.bool false, .slice p us.length c, .slice q vs.length d] 28
  ru : Rd W p c us
  rv : Rd W q d vs
theorem RatV.nx {W W' : World} {g : Nat} {p q : Option Addr} {c d : Nat} {us vs : List Nat} (h : RatV W g p q c d us vs) (hk : Kp W W') : RatV W' g p q c d us vs := ⟨h.bk.nx hk, h.ru.nx hk, h.rv.nx hk⟩
theorem RatV.new {W : World} {p q : Option Addr} {c d : Nat} {us vs : List Nat} (hu : Rd W p c us) (hv : Rd W q d vs) : RatV (W.alloc (.cells #[.bool false, .slice p us.length c, .slice q vs.length d] 28)) W.heap.size p q c d us vs :=
  ⟨Bk.new W _ _, hu.al _, hv.al _⟩
theorem RatV.cs {W : World} {g : Nat} {p q : Option Addr} {c d : Nat} {us vs : List Nat} (h : RatV W g p q c d us vs) : W.cell? ⟨g, 0, none⟩ = some (.bool false) ∧ W.cell? ⟨g, 1, none⟩ = some (.slice p us.length c) ∧ W.cell? ⟨g, 2, none⟩ = some (.slice q vs.length d) := ⟨h.bk.c 0, h.bk.c 1, h.bk.c 2⟩
theorem rof' (n : Nat) (w : World) (hn : n < 9223372036854775808) (hz : us = L n) (hv : vs = [1]) : Calls Try.prog 33 #[.int .i64 (n : Int)] w (GivesR1 w us vs) := by subst hv; exact rof n w hn hz
theorem L1 : L 1 = [1] := by decide +kernel
set_option maxHeartbeats 4000000 in
theorem awake (w : World) : Calls Try.prog 16 #[] w fun e w' => e = .returned (.bool true) ∧ Kp w w' := by
  obtain ⟨u4, hu4⟩ : ∃ s, s = L 4 := ⟨_, rfl⟩
  obtain ⟨v1, hv1⟩ : ∃ s, s = [1] := ⟨_, rfl⟩
  obtain ⟨u8, hu8⟩ : ∃ s, s = L 8 := ⟨_, rfl⟩
  obtain ⟨v3, hv3⟩ : ∃ s, s = L 3 := ⟨_, rfl⟩
  have l4 : u4.length ≤ 1 := by rw [hu4]; exact L_len _ 1 (by decide)
  have l1 : v1.length ≤ 1 := by rw [hv1]; decide
  have l8 : u8.length ≤ 1 := by rw [hu8]; exact L_len _ 1 (by decide)
  have l3 : v3.length ≤ 1 := by rw [hv3]; exact L_len _ 1 (by decide)
  have B1 := Lib.hid (fun w1 => show Calls Try.prog 18 #[.string ⟨#[49, 48, 49]⟩, .int .u64 6] w1 (fun e w' => e = .returned (.tuple #[.int .u64 5, .int .i64 3, .bool true]) ∧ Kp w1 w') from by1 ⟨#[49, 48, 49]⟩ 6 w1 (by decide) (by decide) ⟨5, true, 3, false⟩ (by decide +kernel))
  have B2 := Lib.hid (fun w1 => show Calls Try.prog 18 #[.string ⟨#[49, 49, 48, 49, 49, 49, 48, 49]⟩, .int .u64 6] w1 (fun e w' => e = .returned (.tuple #[.int .u64 0, .int .i64 6, .bool false]) ∧ Kp w1 w') from by1 ⟨#[49, 49, 48, 49, 49, 49, 48, 49]⟩ 6 w1 (by decide) (by decide) ⟨0, false, 6, true⟩ (by decide +kernel))
  have B3 := Lib.hid (fun w1 => show Calls Try.prog 18 #[.string ⟨#[49, 49, 48, 48, 48, 49]⟩, .int .u64 6] w1 (fun e w' => e = .returned (.tuple #[.int .u64 1, .int .i64 6, .bool true]) ∧ Kp w1 w') from by1 ⟨#[49, 49, 48, 48, 48, 49]⟩ 6 w1 (by decide) (by decide) ⟨1, true, 6, false⟩ (by decide +kernel))
  have B4 := Lib.hid (fun w1 => show Calls Try.prog 18 #[.string ⟨#[]⟩, .int .u64 1] w1 (fun e w' => e = .returned (.tuple #[.int .u64 0, .int .i64 0, .bool true]) ∧ Kp w1 w') from by1 ⟨#[]⟩ 1 w1 (by decide) (by decide) ⟨0, true, 0, false⟩ (by decide +kernel))
  have C1 := Lib.hid (fun w1 => show Calls Try.prog 11 #[.int .u64 6] w1 (GivesRat w1 u4 v1) from cost1 6 w1 (by decide) (by decide) (by rw [hu4]; exact congrArg L (by decide +kernel)) (by rw [hv1, ← L1]; exact congrArg L (by decide +kernel)))
  have C2 := Lib.hid (fun w1 => show Calls Try.prog 11 #[.int .u64 3] w1 (GivesRat w1 u8 v3) from cost1 3 w1 (by decide) (by decide) (by rw [hu8]; exact congrArg L (by decide +kernel)) (by rw [hv3]; exact congrArg L (by decide +kernel)))
  have C4 := Lib.hid (fun w1 => show Calls Try.prog 28 #[.int .i64 8, .int .i64 3] w1 (GivesRat w1 u8 v3) from rover 8 3 w1 (by decide) (by decide) (by decide) (by rw [hu8]; exact congrArg L (by decide +kernel)) (by rw [hv3]; exact congrArg L (by decide +kernel)))
  have O4 := Lib.hid (fun w1 => show Calls Try.prog 33 #[.int .i64 4] w1 (GivesR1 w1 u4 v1) from rof' 4 w1 (by decide) hu4 hv1)
  have W6 := Lib.hid (fun w1 => show Calls Try.prog 13 #[.int .u64 6] w1 (fun e w' => e = .returned (.int .i64 3) ∧ w1 = w') from width1 6 w1 (by decide) 3 (by decide +kernel))
  have W9 := Lib.hid (fun w1 => show Calls Try.prog 13 #[.int .u64 9] w1 (fun e w' => e = .returned (.int .i64 4) ∧ w1 = w') from width1 9 w1 (by decide) 4 (by decide +kernel))
  clear hu4 hv1 hu8 hv3
  go_enter Try.func16, Try.ntmps16
  go_wp2_with fail
  refine (B1.out _).mono ?_; rintro e w1 ⟨rfl, hb⟩
  have K1 := Lib.hid hb
  clear B1 hb
  go_wp2_with fail
  refine (B2.out _).mono ?_; rintro e w2 ⟨rfl, hb⟩
  replace K1 := Lib.hid (Kp.nx K1.out hb)
  clear B2 hb
  go_wp2_with fail
  refine (B3.out _).mono ?_; rintro e w3 ⟨rfl, hb⟩
  replace K1 := Lib.hid (Kp.nx K1.out hb)
  clear B3 hb
  go_wp2_with fail
  refine (B4.out _).mono ?_; rintro e w4 ⟨rfl, hb⟩
  replace K1 := Lib.hid (Kp.nx K1.out hb)
  clear B4 hb
  go_wp2_with fail
  refine (C1.out _).mono ?_; rintro e w5 ⟨p1, c1, q1, d1, rfl, ho, hq, hb⟩
  have X := Lib.hid (RatV.new ho.rd hq.rd)
  replace K1 := Lib.hid (Kp.nx (Kp.nx K1.out hb) ((Kp.refl _).al (.cells #[.bool false, .slice p1 u4.length c1, .slice q1 v1.length d1] 28)))
  clear C1 ho hq hb
  go_wp2_with fail
  generalize (w5.alloc (.cells #[.bool false, .slice p1 u4.length c1, .slice q1 v1.length d1] 28)) = W5 at *
  refine (C2.out _).mono ?_; rintro e w6 ⟨p2, c2, q2, d2, rfl, ho, hq, hb⟩
  have Y := Lib.hid (RatV.new ho.rd hq.rd)
  have KA := (Kp.nx hb ((Kp.refl _).al (.cells #[.bool false, .slice p2 u8.length c2, .slice q2 v3.length d2] 28)))
  replace K1 := Lib.hid (Kp.nx K1.out KA)
  replace X := Lib.hid (X.out.nx KA)
  clear C2 ho hq hb KA
  go_wp2_with fail
  generalize (w6.alloc (.cells #[.bool false, .slice p2 u8.length c2, .slice q2 v3.length d2] 28)) = W6' at *
  refine (cost1_no _).mono ?_; rintro e w7 ⟨rfl, hb⟩
  have KA := (Kp.nx hb ((Kp.refl _).al (.cells #[.bool false, .slice none 0 0, .slice none 0 0] 28)))
  replace K1 := Lib.hid (Kp.nx K1.out KA)
  replace X := Lib.hid (X.out.nx KA)
  replace Y := Lib.hid (Y.out.nx KA)
  clear hb KA
  go_wp2_with fail
  generalize (w7.alloc (.cells #[.bool false, .slice none 0 0, .slice none 0 0] 28)) = W7 at *
  refine (C4.out _).mono ?_; rintro e w8 ⟨p3, c3, q3, d3, rfl, ho, hq, hb⟩
  have Z := Lib.hid (RatV.new ho.rd hq.rd)
  have KA := (Kp.nx hb ((Kp.refl _).al (.cells #[.bool false, .slice p3 u8.length c3, .slice q3 v3.length d3] 28)))
  replace K1 := Lib.hid (Kp.nx K1.out KA)
  replace X := Lib.hid (X.out.nx KA)
  replace Y := Lib.hid (Y.out.nx KA)
  clear C4 ho hq hb KA
  go_wp2_with fail
  generalize (w8.alloc (.cells #[.bool false, .slice p3 u8.length c3, .slice q3 v3.length d3] 28)) = W8 at *
  have HV := Lib.hid (fun (W' : World) (hk : Kp W8 W') => show RatV W' w5.heap.size p1 q1 c1 d1 u4 v1 ∧ RatV W' w6.heap.size p2 q2 c2 d2 u8 v3 ∧ RatV W' w8.heap.size p3 q3 c3 d3 u8 v3 from ⟨X.out.nx hk, Y.out.nx hk, Z.out.nx hk⟩)
  have HI1 := Lib.hid (fun (W' : World) (p q : Option Addr) (c d : Nat) (hk : Kp W8 W') (h1 : Rd W' p c u4) (h2 : Rd W' q d v1) => is6 (X.out.nx hk).ru h1 (X.out.nx hk).rv h2 rfl rfl (by omega) (by omega))
  have HI2 := Lib.hid (fun (W' : World) (hk : Kp W8 W') => is6 (Y.out.nx hk).ru (Z.out.nx hk).ru (Y.out.nx hk).rv (Z.out.nx hk).rv rfl rfl (by omega) (by omega))
  obtain ⟨g1, hg1⟩ : ∃ g, w5.heap.size = g := ⟨_, rfl⟩
  obtain ⟨g2, hg2⟩ : ∃ g, w6.heap.size = g := ⟨_, rfl⟩
  obtain ⟨g3, hg3⟩ : ∃ g, w8.heap.size = g := ⟨_, rfl⟩
  rw [hg1, hg2, hg3] at HV
  simp only [hg1, hg2, hg3]
  clear X Y Z hg1 hg2 hg3
  simp only [List.append]
  go_region_held3 (fun W => (W.cell? ⟨g1, 0, none⟩ = some (.bool false) ∧ W.cell? ⟨g1, 1, none⟩ = some (.slice p1 u4.length c1) ∧ W.cell? ⟨g1, 2, none⟩ = some (.slice q1 v1.length d1)) ∧ (W.cell? ⟨g2, 0, none⟩ = some (.bool false) ∧ W.cell? ⟨g2, 1, none⟩ = some (.slice p2 u8.length c2) ∧ W.cell? ⟨g2, 2, none⟩ = some (.slice q2 v3.length d2)) ∧ (W.cell? ⟨g3, 0, none⟩ = some (.bool false) ∧ W.cell? ⟨g3, 1, none⟩ = some (.slice p3 u8.length c3) ∧ W.cell? ⟨g3, 2, none⟩ = some (.slice q3 v3.length d3)))
    (first
      | exact ⟨(HV.out _ (Kp.refl _)).1.cs, (HV.out _ (Kp.refl _)).2.1.cs, (HV.out _ (Kp.refl _)).2.2.cs⟩
      | exact ⟨(HV.out _ (Kp.refl _).dr1).1.cs, (HV.out _ (Kp.refl _).dr1).2.1.cs, (HV.out _ (Kp.refl _).dr1).2.2.cs⟩
      | exact ⟨(HV.out _ ka).1.cs, (HV.out _ ka).2.1.cs, (HV.out _ ka).2.2.cs⟩
      | exact ⟨(HV.out _ kb).1.cs, (HV.out _ kb).2.1.cs, (HV.out _ kb).2.2.cs⟩
      | exact ⟨(HV.out _ kc).1.cs, (HV.out _ kc).2.1.cs, (HV.out _ kc).2.2.cs⟩)
    (first
      | (go_at_call 33; (with_reducible refine (O4.out _).mono ?_); rintro e wa ⟨p4, c4, q4, d4, rfl, ha1, ha2, ha3⟩; have ka := Kp.nx (Kp.refl W8).dr1 ha3)
      | (go_at_call 15; (with_reducible refine (HI1.out _ p4 q4 c4 d4 ka ha1.rd ha2.rd).mono ?_); rintro e wb ⟨rfl, hb3⟩; have kb := Kp.nx ka hb3)
      | (go_at_call 15; (with_reducible refine (HI2.out _ kb).mono ?_); rintro e wc ⟨rfl, hc3⟩; have kc := Kp.nx kb hc3)
      | (go_at_call 13; (with_reducible refine (W6.out _).mono ?_); rintro e wd ⟨rfl, rfl⟩)
      | (go_at_call 13; (with_reducible refine (W9.out _).mono ?_); rintro e we ⟨rfl, rfl⟩))
  have K2 := Lib.hid (Kp.nx K1.out kc)
  clear K1 HV HI1 HI2
  go_wp2_with fail
  go_ret
  exact ⟨rfl, K2.out⟩
end Go.Proofs.BL
