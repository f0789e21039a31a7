/- The statement AliasNames: the examples; weights at their ends; each error in its row; nil, and what nobody made. No condition. -/
import Derived.Test.YticickjnlkbkoaaGreatRows
import Derived.WalkKit
import Derived.ProofKit
import Derived.OpenShut
import Derived.Test.YticickjnlkbkoaaGreatAltI
import Derived.Test.YticickjnlkbkoaaGreatAltH
import Derived.Test.YticickjnlkbkoaaGreatAliG
import Derived.Test.YticickjnlkbkoaaGreatAliC
import Derived.Test.YticickjnlkbkoaaGreatRatN
import Derived.Test.YticickjnlkbkoaaGreatRatU
import Derived.Test.YticickjnlkbkoaaGreatBelA
import Derived.ShutString
import Derived.Below
namespace Go.Proofs.YticickjnlkbkoaaGreat.aliasNames
open Go.ChangeShapes Go.WideShapes Go.ChangeAt Go.RowKit
open Go.Proofs
open Go.ChangeMaps (open_string shut_string)
set_option linter.unusedVariables false      -- a walk need not use every 'w<i>' (that an integer argument fits its kind)

theorem own : ownKnob Tryz.prog.godebug = none := by kernel_rfl

open Go.Proofs.AL Go.Proofs.BL Go.Proofs.SL Go.Proofs.RA Go.Proofs.RL Go.Proofs.NP
set_option linter.unusedSimpArgs false

/-! ### STEP 1: THE WALK: the Go text returns true. 'Grown w w'': the world has at most new blocks (Derived/RowKit3.lean). Part the cases AHEAD of 'go_enter' where a test parts the walk; take each callee by a contract of your own. -/
set_option maxHeartbeats 8000000 in
set_option maxRecDepth 100000 in
theorem walk (w : World) :
    Calls Tryz.prog 3 #[] w fun e w' => e = .returned (.bool true) ∧ Below w.heap.size w w' := by
  go_enter Tryz.func3, Tryz.ntmps3
  go_wp2_with fail
  refine (AL.awake _).mono ?_; rintro e w1 ⟨rfl, hb⟩
  have K := Lib.hid (show Kp w w1 from hb)
  clear hb
  go_wp2_with fail
  refine wp_lits (n := 20) (fun vs => List.toArray (Value.bool false :: undef :: undef :: undef :: undef :: undef :: undef :: undef :: undef :: undef :: undef :: undef :: undef :: undef :: undef :: undef :: undef :: undef :: undef :: undef :: undef :: undef :: undef :: undef :: undef :: undef :: undef :: undef :: undef :: undef :: Value.bool true :: Value.bool false :: Value.bool false :: Value.bool false :: Value.bool false :: Value.bool false :: Value.bool false :: Value.bool false :: vs 0 :: vs 1 :: vs 2 :: vs 3 :: vs 4 :: vs 5 :: vs 6 :: vs 7 :: vs 8 :: vs 9 :: vs 10 :: vs 11 :: vs 12 :: vs 13 :: vs 14 :: vs 15 :: vs 16 :: vs 17 :: vs 18 :: vs 19 :: undef :: undef :: undef :: undef :: undef :: undef :: undef :: undef :: undef :: undef :: undef :: undef :: undef :: undef :: undef :: undef :: undef :: undef :: undef :: undef :: undef :: undef :: undef :: undef :: undef :: undef :: undef :: undef :: undef :: undef :: undef :: undef :: undef :: undef :: undef :: undef :: undef :: undef :: undef :: undef :: undef :: undef :: undef :: undef :: undef :: undef :: undef :: undef :: undef :: undef :: undef :: undef :: undef :: undef :: undef :: undef :: undef :: undef :: undef :: undef :: undef :: undef :: undef :: undef :: undef :: undef :: undef :: undef :: undef :: undef :: undef :: undef :: undef :: undef :: undef :: undef :: undef :: undef :: undef :: undef :: undef :: undef :: undef :: undef :: undef :: undef :: undef :: undef :: undef :: undef :: undef :: undef :: undef :: undef :: undef :: undef :: undef :: undef :: undef :: undef :: undef :: undef :: undef :: undef :: undef :: undef :: undef :: undef :: undef :: undef :: undef :: undef :: undef :: undef :: undef :: undef :: undef :: undef :: undef :: undef :: undef :: undef :: undef :: undef :: undef :: undef :: undef :: undef :: undef :: undef :: undef :: undef :: undef :: undef :: undef :: undef :: undef :: undef :: undef :: undef :: undef :: undef :: undef :: undef :: undef :: undef :: undef :: undef :: undef :: undef :: undef :: undef :: undef :: undef :: undef :: undef :: undef :: undef :: undef :: undef :: undef :: undef :: undef :: undef :: undef :: undef :: undef :: undef :: undef :: undef :: undef :: undef :: undef :: undef :: undef :: undef :: undef :: undef :: undef :: undef :: undef :: undef :: undef :: undef :: undef :: undef :: undef :: undef :: [])) P9 w1 (fun _ => undef) ?hn ?hm ?hb ?put P9.nx ?exec ?fin
  case hn => rfl
  case hm => kernel_rfl
  case hb => kernel_rfl
  case put =>
    intro i o ho
    match i, ho with
    | 0, ho => simp only [List.getElem?_toArray, List.getElem?_cons_zero, List.getElem?_cons_succ, Option.some.injEq] at ho; subst ho; exact fun vs v => by kernel_rfl
    | 1, ho => simp only [List.getElem?_toArray, List.getElem?_cons_zero, List.getElem?_cons_succ, Option.some.injEq] at ho; subst ho; exact fun vs v => by kernel_rfl
    | 2, ho => simp only [List.getElem?_toArray, List.getElem?_cons_zero, List.getElem?_cons_succ, Option.some.injEq] at ho; subst ho; exact fun vs v => by kernel_rfl
    | 3, ho => simp only [List.getElem?_toArray, List.getElem?_cons_zero, List.getElem?_cons_succ, Option.some.injEq] at ho; subst ho; exact fun vs v => by kernel_rfl
    | 4, ho => simp only [List.getElem?_toArray, List.getElem?_cons_zero, List.getElem?_cons_succ, Option.some.injEq] at ho; subst ho; exact fun vs v => by kernel_rfl
    | 5, ho => simp only [List.getElem?_toArray, List.getElem?_cons_zero, List.getElem?_cons_succ, Option.some.injEq] at ho; subst ho; exact fun vs v => by kernel_rfl
    | 6, ho => simp only [List.getElem?_toArray, List.getElem?_cons_zero, List.getElem?_cons_succ, Option.some.injEq] at ho; subst ho; exact fun vs v => by kernel_rfl
    | 7, ho => simp only [List.getElem?_toArray, List.getElem?_cons_zero, List.getElem?_cons_succ, Option.some.injEq] at ho; subst ho; exact fun vs v => by kernel_rfl
    | 8, ho => simp only [List.getElem?_toArray, List.getElem?_cons_zero, List.getElem?_cons_succ, Option.some.injEq] at ho; subst ho; exact fun vs v => by kernel_rfl
    | 9, ho => simp only [List.getElem?_toArray, List.getElem?_cons_zero, List.getElem?_cons_succ, Option.some.injEq] at ho; subst ho; exact fun vs v => by kernel_rfl
    | 10, ho => simp only [List.getElem?_toArray, List.getElem?_cons_zero, List.getElem?_cons_succ, Option.some.injEq] at ho; subst ho; exact fun vs v => by kernel_rfl
    | 11, ho => simp only [List.getElem?_toArray, List.getElem?_cons_zero, List.getElem?_cons_succ, Option.some.injEq] at ho; subst ho; exact fun vs v => by kernel_rfl
    | 12, ho => simp only [List.getElem?_toArray, List.getElem?_cons_zero, List.getElem?_cons_succ, Option.some.injEq] at ho; subst ho; exact fun vs v => by kernel_rfl
    | 13, ho => simp only [List.getElem?_toArray, List.getElem?_cons_zero, List.getElem?_cons_succ, Option.some.injEq] at ho; subst ho; exact fun vs v => by kernel_rfl
    | 14, ho => simp only [List.getElem?_toArray, List.getElem?_cons_zero, List.getElem?_cons_succ, Option.some.injEq] at ho; subst ho; exact fun vs v => by kernel_rfl
    | 15, ho => simp only [List.getElem?_toArray, List.getElem?_cons_zero, List.getElem?_cons_succ, Option.some.injEq] at ho; subst ho; exact fun vs v => by kernel_rfl
    | 16, ho => simp only [List.getElem?_toArray, List.getElem?_cons_zero, List.getElem?_cons_succ, Option.some.injEq] at ho; subst ho; exact fun vs v => by kernel_rfl
    | 17, ho => simp only [List.getElem?_toArray, List.getElem?_cons_zero, List.getElem?_cons_succ, Option.some.injEq] at ho; subst ho; exact fun vs v => by kernel_rfl
    | 18, ho => simp only [List.getElem?_toArray, List.getElem?_cons_zero, List.getElem?_cons_succ, Option.some.injEq] at ho; subst ho; exact fun vs v => by kernel_rfl
    | 19, ho => simp only [List.getElem?_toArray, List.getElem?_cons_zero, List.getElem?_cons_succ, Option.some.injEq] at ho; subst ho; exact fun vs v => by kernel_rfl
    | (k + 20), ho => exact absurd ho (by simp)
  case exec =>
    intro i o ho
    match i, ho with
    | 0, ho => simp only [List.getElem?_toArray, List.getElem?_cons_zero, List.getElem?_cons_succ, Option.some.injEq] at ho; subst ho; intro vs w hd; exact ⟨.agg #[.slice none 0 0, .int .i64 4], w, by kernel_rfl, Kp.refl _, ⟨none, 0, rfl, ⟨.inl rfl⟩⟩⟩
    | 1, ho => simp only [List.getElem?_toArray, List.getElem?_cons_zero, List.getElem?_cons_succ, Option.some.injEq] at ho; subst ho; intro vs w hd; exact ⟨.slice (some ⟨w.heap.size, 0, none⟩) 65 65, w.alloc (.cells ((ws9 1).map fun x => Value.int .i64 x).toArray 2), by kernel_rfl, (Kp.refl w).al _, Sl9.lit w (ws9 1) 2 65 rfl⟩
    | 2, ho => simp only [List.getElem?_toArray, List.getElem?_cons_zero, List.getElem?_cons_succ, Option.some.injEq] at ho; subst ho; intro vs w hd; obtain ⟨p, c, h1, h2⟩ : Sl9 (ws9 1) (vs 1) w := hd { on := 1, ground := .data } (by simp) rfl; simp only [h1]; exact ⟨.agg #[.slice p (ws9 1).length c, .int .i64 (er9 1)], w, by kernel_rfl, Kp.refl _, ⟨p, c, rfl, h2⟩⟩
    | 3, ho => simp only [List.getElem?_toArray, List.getElem?_cons_zero, List.getElem?_cons_succ, Option.some.injEq] at ho; subst ho; intro vs w hd; exact ⟨.slice (some ⟨w.heap.size, 0, none⟩) 2 2, w.alloc (.cells ((ws9 2).map fun x => Value.int .i64 x).toArray 2), by kernel_rfl, (Kp.refl w).al _, Sl9.lit w (ws9 2) 2 2 rfl⟩
    | 4, ho => simp only [List.getElem?_toArray, List.getElem?_cons_zero, List.getElem?_cons_succ, Option.some.injEq] at ho; subst ho; intro vs w hd; obtain ⟨p, c, h1, h2⟩ : Sl9 (ws9 2) (vs 3) w := hd { on := 3, ground := .data } (by simp) rfl; simp only [h1]; exact ⟨.agg #[.slice p (ws9 2).length c, .int .i64 (er9 2)], w, by kernel_rfl, Kp.refl _, ⟨p, c, rfl, h2⟩⟩
    | 5, ho => simp only [List.getElem?_toArray, List.getElem?_cons_zero, List.getElem?_cons_succ, Option.some.injEq] at ho; subst ho; intro vs w hd; exact ⟨.slice (some ⟨w.heap.size, 0, none⟩) 1 1, w.alloc (.cells ((ws9 3).map fun x => Value.int .i64 x).toArray 2), by kernel_rfl, (Kp.refl w).al _, Sl9.lit w (ws9 3) 2 1 rfl⟩
    | 6, ho => simp only [List.getElem?_toArray, List.getElem?_cons_zero, List.getElem?_cons_succ, Option.some.injEq] at ho; subst ho; intro vs w hd; obtain ⟨p, c, h1, h2⟩ : Sl9 (ws9 3) (vs 5) w := hd { on := 5, ground := .data } (by simp) rfl; simp only [h1]; exact ⟨.agg #[.slice p (ws9 3).length c, .int .i64 (er9 3)], w, by kernel_rfl, Kp.refl _, ⟨p, c, rfl, h2⟩⟩
    | 7, ho => simp only [List.getElem?_toArray, List.getElem?_cons_zero, List.getElem?_cons_succ, Option.some.injEq] at ho; subst ho; intro vs w hd; exact ⟨.slice (some ⟨w.heap.size, 0, none⟩) 2 2, w.alloc (.cells ((ws9 4).map fun x => Value.int .i64 x).toArray 2), by kernel_rfl, (Kp.refl w).al _, Sl9.lit w (ws9 4) 2 2 rfl⟩
    | 8, ho => simp only [List.getElem?_toArray, List.getElem?_cons_zero, List.getElem?_cons_succ, Option.some.injEq] at ho; subst ho; intro vs w hd; obtain ⟨p, c, h1, h2⟩ : Sl9 (ws9 4) (vs 7) w := hd { on := 7, ground := .data } (by simp) rfl; simp only [h1]; exact ⟨.agg #[.slice p (ws9 4).length c, .int .i64 (er9 4)], w, by kernel_rfl, Kp.refl _, ⟨p, c, rfl, h2⟩⟩
    | 9, ho => simp only [List.getElem?_toArray, List.getElem?_cons_zero, List.getElem?_cons_succ, Option.some.injEq] at ho; subst ho; intro vs w hd; exact ⟨.slice (some ⟨w.heap.size, 0, none⟩) 64 64, w.alloc (.cells ((ws9 5).map fun x => Value.int .i64 x).toArray 2), by kernel_rfl, (Kp.refl w).al _, Sl9.lit w (ws9 5) 2 64 rfl⟩
    | 10, ho => simp only [List.getElem?_toArray, List.getElem?_cons_zero, List.getElem?_cons_succ, Option.some.injEq] at ho; subst ho; intro vs w hd; obtain ⟨p, c, h1, h2⟩ : Sl9 (ws9 5) (vs 9) w := hd { on := 9, ground := .data } (by simp) rfl; simp only [h1]; exact ⟨.agg #[.slice p (ws9 5).length c, .int .i64 (er9 5)], w, by kernel_rfl, Kp.refl _, ⟨p, c, rfl, h2⟩⟩
    | 11, ho => simp only [List.getElem?_toArray, List.getElem?_cons_zero, List.getElem?_cons_succ, Option.some.injEq] at ho; subst ho; intro vs w hd; exact ⟨.slice (some ⟨w.heap.size, 0, none⟩) 1 1, w.alloc (.cells ((ws9 6).map fun x => Value.int .i64 x).toArray 2), by kernel_rfl, (Kp.refl w).al _, Sl9.lit w (ws9 6) 2 1 rfl⟩
    | 12, ho => simp only [List.getElem?_toArray, List.getElem?_cons_zero, List.getElem?_cons_succ, Option.some.injEq] at ho; subst ho; intro vs w hd; obtain ⟨p, c, h1, h2⟩ : Sl9 (ws9 6) (vs 11) w := hd { on := 11, ground := .data } (by simp) rfl; simp only [h1]; exact ⟨.agg #[.slice p (ws9 6).length c, .int .i64 (er9 6)], w, by kernel_rfl, Kp.refl _, ⟨p, c, rfl, h2⟩⟩
    | 13, ho => simp only [List.getElem?_toArray, List.getElem?_cons_zero, List.getElem?_cons_succ, Option.some.injEq] at ho; subst ho; intro vs w hd; exact ⟨.slice (some ⟨w.heap.size, 0, none⟩) 2 2, w.alloc (.cells ((ws9 7).map fun x => Value.int .i64 x).toArray 2), by kernel_rfl, (Kp.refl w).al _, Sl9.lit w (ws9 7) 2 2 rfl⟩
    | 14, ho => simp only [List.getElem?_toArray, List.getElem?_cons_zero, List.getElem?_cons_succ, Option.some.injEq] at ho; subst ho; intro vs w hd; obtain ⟨p, c, h1, h2⟩ : Sl9 (ws9 7) (vs 13) w := hd { on := 13, ground := .data } (by simp) rfl; simp only [h1]; exact ⟨.agg #[.slice p (ws9 7).length c, .int .i64 (er9 7)], w, by kernel_rfl, Kp.refl _, ⟨p, c, rfl, h2⟩⟩
    | 15, ho => simp only [List.getElem?_toArray, List.getElem?_cons_zero, List.getElem?_cons_succ, Option.some.injEq] at ho; subst ho; intro vs w hd; exact ⟨.slice (some ⟨w.heap.size, 0, none⟩) 2 2, w.alloc (.cells ((ws9 8).map fun x => Value.int .i64 x).toArray 2), by kernel_rfl, (Kp.refl w).al _, Sl9.lit w (ws9 8) 2 2 rfl⟩
    | 16, ho => simp only [List.getElem?_toArray, List.getElem?_cons_zero, List.getElem?_cons_succ, Option.some.injEq] at ho; subst ho; intro vs w hd; obtain ⟨p, c, h1, h2⟩ : Sl9 (ws9 8) (vs 15) w := hd { on := 15, ground := .data } (by simp) rfl; simp only [h1]; exact ⟨.agg #[.slice p (ws9 8).length c, .int .i64 (er9 8)], w, by kernel_rfl, Kp.refl _, ⟨p, c, rfl, h2⟩⟩
    | 17, ho => simp only [List.getElem?_toArray, List.getElem?_cons_zero, List.getElem?_cons_succ, Option.some.injEq] at ho; subst ho; intro vs w hd; obtain ⟨p0, c0, h0, r0⟩ : Ex9 0 (vs 0) w := hd { on := 0, ground := .data } (by simp) rfl; obtain ⟨p1, c1, h1, r1⟩ : Ex9 1 (vs 2) w := hd { on := 2, ground := .data } (by simp) rfl; obtain ⟨p2, c2, h2, r2⟩ : Ex9 2 (vs 4) w := hd { on := 4, ground := .data } (by simp) rfl; obtain ⟨p3, c3, h3, r3⟩ : Ex9 3 (vs 6) w := hd { on := 6, ground := .data } (by simp) rfl; obtain ⟨p4, c4, h4, r4⟩ : Ex9 4 (vs 8) w := hd { on := 8, ground := .data } (by simp) rfl; obtain ⟨p5, c5, h5, r5⟩ : Ex9 5 (vs 10) w := hd { on := 10, ground := .data } (by simp) rfl; obtain ⟨p6, c6, h6, r6⟩ : Ex9 6 (vs 12) w := hd { on := 12, ground := .data } (by simp) rfl; obtain ⟨p7, c7, h7, r7⟩ : Ex9 7 (vs 14) w := hd { on := 14, ground := .data } (by simp) rfl; obtain ⟨p8, c8, h8, r8⟩ : Ex9 8 (vs 16) w := hd { on := 16, ground := .data } (by simp) rfl; simp only [h0, h1, h2, h3, h4, h5, h6, h7, h8]; exact ⟨_, _, by kernel_rfl, (Kp.refl w).al _, Al9.lit w 25 (fun m => match m with | 0 => p0 | 1 => p1 | 2 => p2 | 3 => p3 | 4 => p4 | 5 => p5 | 6 => p6 | 7 => p7 | 8 => p8 | _ => none) (fun m => match m with | 0 => c0 | 1 => c1 | 2 => c2 | 3 => c3 | 4 => c4 | 5 => c5 | 6 => c6 | 7 => c7 | 8 => c8 | _ => 0) (fun m hm => by match m, hm with | 0, _ => exact r0 | 1, _ => exact r1 | 2, _ => exact r2 | 3, _ => exact r3 | 4, _ => exact r4 | 5, _ => exact r5 | 6, _ => exact r6 | 7, _ => exact r7 | 8, _ => exact r8)⟩
    | 18, ho => simp only [List.getElem?_toArray, List.getElem?_cons_zero, List.getElem?_cons_succ, Option.some.injEq] at ho; subst ho; intro vs w hd; obtain ⟨b, h1, -, -⟩ : Al9 (vs 17) w := hd { on := 17, ground := .data } (by simp) rfl; simp only [h1]; exact ⟨.int .i64 9, w, by kernel_rfl, Kp.refl _, rfl⟩
    | 19, ho => simp only [List.getElem?_toArray, List.getElem?_cons_zero, List.getElem?_cons_succ, Option.some.injEq] at ho; subst ho; intro vs w hd; exact ⟨.int .i64 0, w, by kernel_rfl, Kp.refl _, rfl⟩
    | (k + 20), ho => exact absurd ho (by simp)
  case fin =>
    intro vs w2 hk hp
    obtain ⟨b, h17, hb, hA⟩ : Al9 (vs 17) w2 := hp 17 (by decide)
    have h18 : vs 18 = .int .i64 9 := hp 18 (by decide)
    have h19 : vs 19 = .int .i64 0 := hp 19 (by decide)
    have A9 := Lib.hid (show Al9 (.slice (some ⟨b, 0, none⟩) 9 9) w2 from ⟨b, rfl, hb, hA⟩)
    replace K := Lib.hid (Kp.nx K.out hk)
    clear hk hp hA hb
    simp only [h17, h18, h19]
    clear h17 h18 h19
    go_wp2_with fail
    go_loopw [57] (fun s57 wr => ∃ k : Nat, s57 = .int .i64 (k : Int) ∧ k ≤ 9 ∧ Hid (Kp w2 wr)) (fun v _ => 9 - (intOf v).toNat)
    case atStart => exact ⟨0, rfl, by omega, Lib.hid (Kp.refl _)⟩
    case round =>
      obtain ⟨k, rfl, hk, KW⟩ := hrel
      by_cases hlt : k < 9
      · have hlt2 : (k : Int) < 9 := by omega
        have hk0 : (0 : Int) ≤ (k : Int) := by omega
        obtain ⟨b', e', hbl, hA⟩ := A9.out.nx KW.out
        cases e'
        obtain ⟨q, c, a1, a2, a3⟩ := hA k hlt
        obtain ⟨z, hz⟩ : ∃ z, z = er9 k := ⟨_, rfl⟩
        have hw : z = whyW (ws9 k) := by rw [hz]; exact er9_why k hlt
        have hln := ws9_len k hlt
        rw [← hz] at a2
        generalize ws9 k = us at *
        have RI := Lib.hid (a3.nx ((Kp.refl wr).al (.cells #[.slice q us.length c, .int .i64 z] 25)))
        have BX := Lib.hid (Bk.new wr #[.slice q us.length c, .int .i64 z] 25)
        have KA := Lib.hid (Kp.nx KW.out ((Kp.refl wr).al (.cells #[.slice q us.length c, .int .i64 z] 25)))
        clear hA a3 hz A9
        by_cases hz0 : z = 0
        · subst hz0
          have HN := Lib.hid (fun (W : World) (h : Ri W q us) => new1 us q c W h (why_len hw) hw)
          clear hw hln
          go_wp2_with fail
          refine (HN.out _ RI.out).mono ?_; rintro e w4 ⟨g, gc, go, rfl, -, -, hb⟩
          have x1 := (BX.out.nx hb).c 1
          replace KA := Lib.hid (Kp.nx KA.out hb)
          clear HN RI BX hb a1 a2
          go_wp2_with fail
          go_roundw
          case rel => exact ⟨k + 1, by go_num, by omega, KA⟩
          case measure => simp [intOf]; omega
        · have HN := Lib.hid (fun (W : World) (h : Ri W q us) => new_no us q c W h (by omega) z hw hz0)
          have hzb : (z == 0) = false := by rw [beq_eq_false_iff_ne]; exact hz0
          have hzt : (z == z) = true := by simp
          have hzb3 : (z != 0) = true := by simp [hz0]
          clear hw hln
          go_wp2_with fail
          refine (HN.out _ RI.out).mono ?_; rintro e w4 ⟨rfl, rfl⟩
          have x1 := BX.out.c 1
          clear HN RI BX a1 a2
          go_wp2_with fail
          go_roundw
          case rel => exact ⟨k + 1, by go_num, by omega, KA⟩
          case measure => simp [intOf]; omega
      · have hlt2 : ¬ ((k : Int) < 9) := by omega
        clear A9
        replace K := Lib.hid (Kp.nx K.out KW.out)
        go_wp2_with fail
        have A6 := Lib.hid (al6_lay wr 2 3 31)
        replace K := Lib.hid (Kp.nx K.out (lay_kp (lit6 wr.heap.size 2 3 31) wr))
        obtain ⟨W6, hW6⟩ : ∃ W, lay wr (lit6 wr.heap.size 2 3 31) = W := ⟨_, rfl⟩
        rw [hW6] at A6 K
        obtain ⟨B, hB⟩ : ∃ B, wr.heap.size + 18 = B := ⟨_, rfl⟩
        rw [hB] at A6
        rw [show (((((((((((((((((((wr.alloc (.cells #[.int .i64 5] 2)).alloc (.cells #[.int .i64 5] 2)).alloc (.cells #[.int .i64 0] 3)).alloc (.cells #[.int .i64 0, .int .i64 0, .int .i64 1] 2)).alloc (.cells #[.int .i64 0, .int .i64 0, .int .i64 1] 2)).alloc (.cells #[.int .i64 2, .int .i64 2, .int .i64 2] 3)).alloc (.cells #[.int .i64 2, .int .i64 2] 2)).alloc (.cells #[.int .i64 4, .int .i64 4] 2)).alloc (.cells #[.int .i64 0, .int .i64 1] 3)).alloc (.cells #[.int .i64 1, .int .i64 2, .int .i64 3] 2)).alloc (.cells #[.int .i64 3, .int .i64 6, .int .i64 6] 2)).alloc (.cells #[.int .i64 2, .int .i64 1, .int .i64 2] 3)).alloc (.cells #[.int .i64 4, .int .i64 1, .int .i64 1] 2)).alloc (.cells #[.int .i64 6, .int .i64 3, .int .i64 3] 2)).alloc (.cells #[.int .i64 0, .int .i64 0, .int .i64 0] 3)).alloc (.cells #[.int .i64 0, .int .i64 3, .int .i64 3, .int .i64 2] 2)).alloc (.cells #[.int .i64 0, .int .i64 8, .int .i64 4, .int .i64 0] 2)).alloc (.cells #[.int .i64 3, .int .i64 1, .int .i64 1, .int .i64 2] 3)).alloc (.cells #[.slice (some ⟨wr.heap.size, 0, none⟩) 1 1, .slice (some ⟨wr.heap.size + 1, 0, none⟩) 1 1, .slice (some ⟨wr.heap.size + 1 + 1, 0, none⟩) 1 1, .slice (some ⟨wr.heap.size + 1 + 1 + 1, 0, none⟩) 3 3, .slice (some ⟨wr.heap.size + 1 + 1 + 1 + 1, 0, none⟩) 3 3, .slice (some ⟨wr.heap.size + 1 + 1 + 1 + 1 + 1, 0, none⟩) 3 3, .slice (some ⟨wr.heap.size + 1 + 1 + 1 + 1 + 1 + 1, 0, none⟩) 2 2, .slice (some ⟨wr.heap.size + 1 + 1 + 1 + 1 + 1 + 1 + 1, 0, none⟩) 2 2, .slice (some ⟨wr.heap.size + 1 + 1 + 1 + 1 + 1 + 1 + 1 + 1, 0, none⟩) 2 2, .slice (some ⟨wr.heap.size + 1 + 1 + 1 + 1 + 1 + 1 + 1 + 1 + 1, 0, none⟩) 3 3, .slice (some ⟨wr.heap.size + 1 + 1 + 1 + 1 + 1 + 1 + 1 + 1 + 1 + 1, 0, none⟩) 3 3, .slice (some ⟨wr.heap.size + 1 + 1 + 1 + 1 + 1 + 1 + 1 + 1 + 1 + 1 + 1, 0, none⟩) 3 3, .slice (some ⟨wr.heap.size + 1 + 1 + 1 + 1 + 1 + 1 + 1 + 1 + 1 + 1 + 1 + 1, 0, none⟩) 3 3, .slice (some ⟨wr.heap.size + 1 + 1 + 1 + 1 + 1 + 1 + 1 + 1 + 1 + 1 + 1 + 1 + 1, 0, none⟩) 3 3, .slice (some ⟨wr.heap.size + 1 + 1 + 1 + 1 + 1 + 1 + 1 + 1 + 1 + 1 + 1 + 1 + 1 + 1, 0, none⟩) 3 3, .slice (some ⟨wr.heap.size + 1 + 1 + 1 + 1 + 1 + 1 + 1 + 1 + 1 + 1 + 1 + 1 + 1 + 1 + 1, 0, none⟩) 4 4, .slice (some ⟨wr.heap.size + 1 + 1 + 1 + 1 + 1 + 1 + 1 + 1 + 1 + 1 + 1 + 1 + 1 + 1 + 1 + 1, 0, none⟩) 4 4, .slice (some ⟨wr.heap.size + 1 + 1 + 1 + 1 + 1 + 1 + 1 + 1 + 1 + 1 + 1 + 1 + 1 + 1 + 1 + 1 + 1, 0, none⟩) 4 4] 31)) = W6 from hW6, show wr.heap.size + 1 + 1 + 1 + 1 + 1 + 1 + 1 + 1 + 1 + 1 + 1 + 1 + 1 + 1 + 1 + 1 + 1 + 1 = B from hB]
        clear hW6 hB KW hlt hlt2 hk
        go_loopw [105] (fun s105 wr => ∃ m : Nat, s105 = .int .i64 (m : Int) ∧ m ≤ 6 ∧ Hid (Kp W6 wr)) (fun v _ => 6 - (intOf v).toNat)
        case atStart => exact ⟨0, rfl, by omega, Lib.hid (Kp.refl _)⟩
        case round =>
          obtain ⟨m, rfl, hm, KW⟩ := hrel
          by_cases hlt : m < 6
          · have hlt2 : (m : Int) < 6 := by omega
            have hm0 : (0 : Int) ≤ (m : Int) := by omega
            obtain ⟨hbl, hA⟩ := A6.out.nx KW.out
            obtain ⟨p1, c1, p2, c2, p3, c3, a1, a2, a3, r1, r2, r3⟩ := hA m hlt
            obtain ⟨l1, l2, hn1, hn2, hw, hup⟩ := tb6_len m hlt
            have hat := tb6_at m hlt
            clear hA A6
            generalize wt6 m = us at *
            generalize ct6 m = cs at *
            generalize ot6 m = os at *
            have RU := Lib.hid (r1.nx ((Kp.refl wr).al (.cells #[.slice p1 us.length c1, .slice p2 us.length c2, .slice p3 us.length c3] 31)))
            have RC := Lib.hid (r2.nx ((Kp.refl wr).al (.cells #[.slice p1 us.length c1, .slice p2 us.length c2, .slice p3 us.length c3] 31)))
            have RO := Lib.hid (r3.nx ((Kp.refl wr).al (.cells #[.slice p1 us.length c1, .slice p2 us.length c2, .slice p3 us.length c3] 31)))
            have BX := Lib.hid (Bk.new wr #[.slice p1 us.length c1, .slice p2 us.length c2, .slice p3 us.length c3] 31)
            have KA := Lib.hid (Kp.nx KW.out ((Kp.refl wr).al (.cells #[.slice p1 us.length c1, .slice p2 us.length c2, .slice p3 us.length c3] 31)))
            have HN := Lib.hid (fun (W : World) (h : Ri W p1 us) => new1 us p1 c1 W h ⟨hn1, hn2⟩ hw)
            have HAT := Lib.hid hat
            have HUP := Lib.hid hup
            have HL := Lib.hid (show cs.length = us.length ∧ os.length = us.length from ⟨l1, l2⟩)
            clear hat hup hw r1 r2 r3 KW l1 l2
            go_wp2_with fail
            refine (HN.out _ RU.out).mono ?_; rintro e w4 ⟨g, gc, go, rfl, hT, -, hb⟩
            have T := Lib.hid hT
            have x0 := (BX.out.nx hb).c 0
            have x1 := (BX.out.nx hb).c 1
            have x2 := (BX.out.nx hb).c 2
            replace KA := Lib.hid (Kp.nx KA.out hb)
            replace RC := Lib.hid (RC.out.nx hb)
            replace RO := Lib.hid (RO.out.nx hb)
            clear HN RU BX hb hT a1 a2 a3
            go_wp2_with fail
            go_loopw [9] (fun s9 wz => ∃ i : Nat, s9 = .int .i64 (i : Int) ∧ i ≤ us.length ∧ w4 = wz) (fun v _ => us.length - (intOf v).toNat)
            case atStart => exact ⟨0, rfl, by omega, rfl⟩
            case round =>
              obtain ⟨i, rfl, hi, rfl⟩ := hrel
              by_cases hil : i < us.length
              · have hil2 : (i : Int) < (us.length : Int) := by omega
                have hi0 : (0 : Int) ≤ (i : Int) := by omega
                have C1 := Lib.hid (cut1 i T.out HUP.out hil hn2)
                have O1 := Lib.hid (other1 i T.out HUP.out hil hn2)
                obtain ⟨h1, h2⟩ := HAT.out i hil
                obtain ⟨bb, off, rfl, hbb, hc1⟩ := RC.out.get (i := i) (by rw [HL.out.1]; exact hil)
                obtain ⟨bd, ofd, rfl, hbd, hc2⟩ := RO.out.get (i := i) (by rw [HL.out.2]; exact hil)
                have e1 := hc1 i (by rw [HL.out.1]; exact hil)
                have e2 := hc2 i (by rw [HL.out.2]; exact hil)
                rw [(List.getElem?_eq_some_iff.1 h1).2] at e1
                rw [(List.getElem?_eq_some_iff.1 h2).2] at e2
                generalize (table us.length (wf us)).cu i = x at *
                generalize (table us.length (wf us)).ot i = o at *
                have hxx : (x == x) = true := by simp
                have hoo : (o == o) = true := by simp
                clear h1 h2 hc1 hc2 hbb hbd HAT T HUP RC RO
                go_wp2_with fail
                refine C1.out.mono ?_; rintro e w' ⟨rfl, rfl⟩
                go_wp2_with fail
                refine O1.out.mono ?_; rintro e w' ⟨rfl, rfl⟩
                clear C1 O1
                go_wp2_with fail
                go_roundw
                case rel => exact ⟨i + 1, by go_num, by omega, by trivial⟩
                case measure => simp [intOf]; omega
              · have hil2 : ¬ ((i : Int) < (us.length : Int)) := by omega
                clear HAT T HUP RC RO
                go_wp2_with fail
                go_roundw
                case rel => exact ⟨m + 1, by go_num, by omega, KA⟩
                case measure => simp [intOf]; omega
          · have hlt2 : ¬ ((m : Int) < 6) := by omega
            replace K := Lib.hid (Kp.nx K.out KW.out)
            clear A6 KW
            go_wp2_with fail
            have BT := Lib.hid (Bk.new wr #[.int .i64 0, .slice none 0 0, .slice none 0 0] 38)
            have KA := (Kp.refl wr).al (.cells #[.int .i64 0, .slice none 0 0, .slice none 0 0] 38)
            replace K := Lib.hid (Kp.nx K.out KA)
            obtain ⟨gt, hgt⟩ : ∃ g, wr.heap.size = g := ⟨_, rfl⟩
            rw [hgt] at BT
            simp only [hgt]
            generalize (wr.alloc (.cells #[.int .i64 0, .slice none 0 0, .slice none 0 0] 38)) = W7 at *
            clear KA hgt hlt hlt2 hm
            refine (new1_ok _ _ (by decide) (by decide +kernel)).mono ?_; rintro e W8 ⟨rfl, hc, hb⟩
            have C8 := Lib.hid hc
            have BT8 := Lib.hid (BT.out.nx hb)
            replace K := Lib.hid (Kp.nx K.out hb)
            obtain ⟨bc, hbc⟩ : ∃ b, W7.heap.size = b := ⟨_, rfl⟩
            rw [hbc] at C8
            simp only [hbc]
            clear hc hb hbc BT
            go_wp2_with fail
            have BP := Lib.hid (Bk.new W8 #[.pointer none, .pointer (some ⟨gt, 0, none⟩)] 27)
            have KA := (Kp.refl W8).al (.cells #[.pointer none, .pointer (some ⟨gt, 0, none⟩)] 27)
            replace K := Lib.hid (Kp.nx K.out KA)
            replace C8 := Lib.hid (C8.out.nx KA)
            replace BT8 := Lib.hid (BT8.out.nx KA)
            obtain ⟨bp, hbp⟩ : ∃ b, W8.heap.size = b := ⟨_, rfl⟩
            rw [hbp] at BP
            simp only [hbp]
            generalize (W8.alloc (.cells #[.pointer none, .pointer (some ⟨gt, 0, none⟩)] 27)) = W9 at *
            clear KA hbp
            have HT := Lib.hid (fun (W' : World) (hk : Kp W9 W') (m : Nat) (hm : m < 2) => show ∃ t, W'.cell? ⟨bp, m, none⟩ = some (.pointer t) ∧ Tz W' t ∧ Cp W' bc _ 0 false from by
              match m, hm with
              | 0, _ => exact ⟨none, (BP.out.nx hk).c 0, .inl rfl, C8.out.nx hk⟩
              | 1, _ => exact ⟨some ⟨gt, 0, none⟩, (BP.out.nx hk).c 1, .inr ⟨gt, rfl, BT8.out.nx hk⟩, C8.out.nx hk⟩)
            clear BP BT8 C8
            obtain ⟨zs, hzs⟩ : ∃ s, s = L 0 := ⟨_, rfl⟩
            obtain ⟨v1, hv1⟩ : ∃ s, s = [1] := ⟨_, rfl⟩
            have lz : zs.length ≤ 1 := by rw [hzs]; exact L_len _ 1 (by decide)
            have l1 : v1.length ≤ 1 := by rw [hv1]; decide
            have CO := Lib.hid (fun (W : World) (t : Option Addr) (h : Tz W t) => show Calls Tryz.prog 18 #[.pointer t] W (GivesR1 W zs v1) from by rw [hv1]; exact costz hzs h)
            have OF := Lib.hid (fun W => show Calls Tryz.prog 19 #[.int .i64 0] W (GivesR1 W zs v1) from fof 0 W (by decide) hzs hv1)
            have CN := Lib.hid (fun (W : World) (p q : Option Addr) (c d : Nat) (h1 : Rd W p c zs) (h2 : Rd W q d v1) => fcount (us := zs) (vs := v1) h1 h2 rfl rfl (by omega) (by omega) 0 1 (by rw [hzs, V_L]) (by rw [hv1, ← L1, V_L]) (by decide) (by rw [hzs]; rfl) (by rw [hv1, ← L1]; rfl))
            clear hzs hv1
            go_loopw [171] (fun s171 wr => ∃ m : Nat, s171 = .int .i64 (m : Int) ∧ m ≤ 2 ∧ Hid (Kp W9 wr)) (fun v _ => 2 - (intOf v).toNat)
            case atStart => exact ⟨0, rfl, by omega, Lib.hid (Kp.refl _)⟩
            case round =>
              obtain ⟨m, rfl, hm, KW⟩ := hrel
              by_cases hlt : m < 2
              · have hlt2 : (m : Int) < 2 := by omega
                have hm0 : (0 : Int) ≤ (m : Int) := by omega
                obtain ⟨t, a1, hz, hC⟩ := HT.out _ KW.out m hlt
                have Z := Lib.hid hz
                have CC := Lib.hid hC
                clear hz hC HT
                go_wp2_with fail
                refine (cutz 0 Z.out).mono ?_; rintro e w' ⟨rfl, rfl⟩
                go_wp2_with fail
                refine (otherz 0 Z.out).mono ?_; rintro e w' ⟨rfl, rfl⟩
                go_wp2_with fail
                refine (pickz 0 0 Z.out).mono ?_; rintro e w' ⟨rfl, rfl⟩
                go_wp2_with fail
                refine (sharez 0 Z.out).mono ?_; rintro e wa ⟨rfl, hb⟩
                have KA := Kp.nx hb ((Kp.refl wa).al (.cells #[.bool false, .slice none 0 0, .slice none 0 0] 49))
                replace Z := Lib.hid (Z.out.nx KA)
                replace CC := Lib.hid (CC.out.nx KA)
                replace KW := Lib.hid (Kp.nx KW.out KA)
                clear KA hb a1
                go_wp2_with fail
                generalize (wa.alloc (.cells #[.bool false, .slice none 0 0, .slice none 0 0] 49)) = wb at *
                refine (drawz _ Z.out).mono ?_; rintro e w' ⟨rfl, rfl⟩
                go_wp2_with fail
                refine (lenz Z.out).mono ?_; rintro e w' ⟨rfl, rfl⟩
                go_wp2_with fail
                refine (sumz Z.out).mono ?_; rintro e w' ⟨rfl, rfl⟩
                go_wp2_with fail
                refine (BL.at1 bc 0 _ false _ CC.out).mono ?_; rintro e w' ⟨rfl, rfl⟩
                go_wp2_with fail
                refine (BL.over1 bc 0 _ false _ CC.out).mono ?_; rintro e w' ⟨rfl, rfl⟩
                go_wp2_with fail
                refine (CO.out _ _ Z.out).mono ?_; rintro e wc ⟨pa, ca, qa, da, rfl, ha1, ha2, hb⟩
                replace KW := Lib.hid (Kp.nx KW.out hb)
                have RA1 := Lib.hid ha1.rd
                have RA2 := Lib.hid ha2.rd
                clear ha1 ha2 hb CC Z CO
                go_wp2_with fail
                refine (CN.out _ pa qa ca da RA1.out RA2.out).mono ?_; rintro e wd ⟨pb, cb, qb, db, rfl, hb1, hb2, hb⟩
                replace KW := Lib.hid (Kp.nx KW.out hb)
                have RB1 := Lib.hid hb1.rd
                have RB2 := Lib.hid hb2.rd
                clear hb1 hb2 hb RA1 RA2 CN
                go_wp2_with fail
                refine (OF.out _).mono ?_; rintro e we ⟨pc, cc, qc, dc, rfl, hc1, hc2, hb⟩
                replace KW := Lib.hid (Kp.nx KW.out hb)
                have HI := Lib.hid (is6 (RB1.out.nx hb) hc1.rd (RB2.out.nx hb) hc2.rd rfl rfl (by omega) (by omega))
                clear hc1 hc2 hb RB1 RB2 OF
                go_wp2_with fail
                refine HI.out.mono ?_; rintro e wf ⟨rfl, hb⟩
                replace KW := Lib.hid (Kp.nx KW.out hb)
                clear HI hb
                go_wp2_with fail
                go_roundw
                case rel => exact ⟨m + 1, by go_num, by omega, KW⟩
                case measure => simp [intOf]; omega
              · have hlt2 : ¬ ((m : Int) < 2) := by omega
                replace K := Lib.hid (Kp.nx K.out KW.out)
                clear HT CO OF CN KW
                go_wp2_with fail
                go_ret
                exact ⟨rfl, K.out⟩

/-! ### THE ROW's STEP: WRITTEN OUT: LEAVE IT -/
set_option maxRecDepth 100000 in
theorem lifted (os : Os) (started : os.Started) (H : Type) (enc : TypeId × Value → H) :
    ReturnsInHanded {} Tryz.checked os 3 .any (Rows.aliasNamesSpec.pre6 enc Tryz.prog Tryz.f3 Rows.aliasNamesRow.domain false) (Rows.aliasNamesSpec.post enc Tryz.prog Tryz.f3 false true false false) := by
  refine returnsInHanded_of_change (C := Tryz.checked) own started (by kernel_rfl) Tryz.func3
    (ChangeSpec.witness6 (enc := enc) (C := Tryz.checked) false ⟨#[], #[], []⟩ 8 (by kernel_rfl) (by kernel_rfl) (by kernel_rfl) (by kernel_rfl)) ?_
  intro W base args ds gs before hval0 hW hcnd _
  have hval : ∀ (j : Nat) t v, Tryz.f3.params[j]? = some t → args[j]? = some v → Value.okWide Tryz.prog W .any base t v := hval0
  have hW' := hW
  obtain ⟨p, q, hA0, hV, rfl, hfz, hnd⟩ := hW
  have hA : DataW.TrodAll enc Tryz.prog W 0 (fun _ => true) true Tryz.f3.params.toList args.toList ds p := hA0
  rw [Tryz.params3] at hA hval
  obtain ⟨rfl, rfl, rfl⟩ := trodAll_none hA
  obtain ⟨rfl, rfl⟩ := trodVars_none hV
  clear hA0 hval0
  simp only [List.append_nil] at hW'
  refine (walk  W).mono fun e W' ⟨he, hg⟩ => ?_
  subst he
  exact ⟨_, rfl, _, _, _, [], [], [], hW', (trodAll_cons_mk (shut_bool Tryz.underlying4 _) trodAll_mk0), rfl, rfl, hg.frame _, fun h => by cases h⟩

theorem over : Rows.aliasNamesRow.holds Tryz.pinned (OpenSpec.ofChange Rows.aliasNamesSpec) :=
  OpenClaim.holds_of_wide 3 Tryz.f3 rfl rfl rfl rfl rfl rfl rfl ⟨rfl, rfl, rfl, rfl, rfl⟩ rfl rfl rfl rfl rfl (by kernel_rfl) Tryz.func3 (by kernel_rfl)
    (of_decide_eq_true (by kernel_rfl)) (by unfold Func.isWrapper; first | (rw [if_pos (by decide +kernel)]; kernel_rfl) | (rw [if_neg (by decide +kernel)]; exact ⟨rfl, rfl⟩))
    (fun os started H enc _ => lifted os started H enc)

/-- ████ THE STATEMENT ████ -/
theorem proved : Rows.AliasNamesSaid :=
  over
#print axioms proved
end Go.Proofs.YticickjnlkbkoaaGreat.aliasNames
