/- Contracts of nat.Add and nat.Sub: sums and differences limb by limb. Every slice is read as a list of words below 2^64, at most 900000 of them. -/
import Derived.Test.YtepndjcncmkkkaaNatC
namespace Go.Proofs.NT
open Go.RowKit
open Go.Proofs
open Go.Proofs.NP
open Go.Proofs.SL
set_option linter.unusedVariables false

theorem add1 (x y c : Int) (p : Nat) (w : World) (x0 : 0 ≤ x) (y0 : 0 ≤ y) (c0 : 0 ≤ c) (c1 : c ≤ 1)
    (hc : w.cell? ⟨p, 0, none⟩ = some (.int .u64 c)) (hf : w.frozen? ⟨p, 0, none⟩ = false) :
    Calls Try.prog 51 #[.int .u64 x, .int .u64 y, .pointer (some ⟨p, 0, none⟩)] w fun e w' =>
      e = .returned (.int .u64 ((x + y + c) % 18446744073709551616)) ∧ w.setCell ⟨p, 0, none⟩ (.int .u64 ((x + y + c) / 18446744073709551616)) = w' := by
  have h := fun w => W.add x y c x0 y0 c0 (by omega) w
  rw [show W.cry c = c by unfold W.cry; omega] at h
  have H := Lib.hid h
  clear h
  go_enter Try.func51, Try.ntmps51
  go_wp2_with fail
  refine (H.out _).mono ?_; rintro e1 w1 ⟨rfl, rfl⟩
  go_wp2_with fail
  go_ret
  exact ⟨rfl, rfl⟩

/-- what holds between two limbs of a sum or a difference: T is the result's number, cn the carry by its place -/
structure EachAt (w wr : World) (H p g N : Nat) (T : Nat) (cn : Nat → Nat) (i : Nat) (out : List Nat) : Prop where
  len : out.length = N
  low' : out.take i = low 18446744073709551616 T i
  own : Own 36 (p + 1) wr (some ⟨g, 0, none⟩) N out
  carry : wr.heap[p]? = some (.cells #[.int .u64 (cn i : Nat)] 36 (0, 0))
  bel : Below p w wr

theorem EachAt.next {w wr : World} {H p g N T : Nat} {cn : Nat → Nat} {i : Nat} {out : List Nat} (E : EachAt w wr H p g N T cn i out) (hi : i < N) (hpg : p < g) (C D : Int)
    (hC : C = (cn (i + 1) : Nat)) (hD : D = (dg 18446744073709551616 T i : Nat)) :
    EachAt w ((wr.setCell ⟨p, 0, none⟩ (.int .u64 C)).setCell ⟨g, i, none⟩ (.int .u64 D)) H p g N T cn (i + 1) (out.set i (dg 18446744073709551616 T i)) := by
  subst hC; subst hD
  have hp : p < wr.heap.size := (Array.getElem?_eq_some_iff.1 E.carry).1
  have g1 : wr.grownBy (wr.setCell ⟨p, 0, none⟩ (.int .u64 (cn (i + 1) : Nat))) (some p) :=
    ⟨rfl, rfl, rfl, by simp [World.setCell], fun k _ hk => Below.heap_setCell _ _ _ _ (fun e => hk (by rw [e]))⟩
  have o1 := E.own.kept g1 (fun g' hg' e => by simp only [Option.some.injEq, Addr.mk.injEq, and_true] at hg' e; omega)
  have o2 := o1.store i (dg 18446744073709551616 T i) (dg_lt _ _ _ (by decide))
  refine ⟨by rw [List.length_set]; exact E.len, ?_, o2.1, ?_, ?_⟩
  · have hl : i < out.length := by rw [E.len]; exact hi
    rw [List.take_succ_eq_append_getElem (by rw [List.length_set]; exact hl)]
    rw [List.take_set_of_le (Nat.le_refl _), E.low', low]
    simp
  · rw [o2.2.block p (by simp [World.setCell]; omega) (by simp; omega)]
    simp only [World.setCell, Array.getElem?_modify, if_pos, E.carry]
    rfl
  · exact (E.bel.setCell (p := ⟨p, 0, none⟩) (Nat.le_refl _) _).setCell (p := ⟨g, i, none⟩) (by show p ≤ g; omega) _

theorem EachAt.cell {w wr : World} {H p g N T : Nat} {cn : Nat → Nat} {i : Nat} {out : List Nat} (E : EachAt w wr H p g N T cn i out) :
    wr.cell? ⟨p, 0, none⟩ = some (.int .u64 (cn i : Nat)) ∧ wr.frozen? ⟨p, 0, none⟩ = false :=
  ⟨by rw [cell_of_row wr p 0 _ 36 (0, 0) E.carry]; rfl, frozen_of_row wr p 0 _ 36 E.carry⟩

theorem EachAt.done {w wr : World} {H p g N T : Nat} {cn : Nat → Nat} {out : List Nat} (E : EachAt w wr H p g N T cn N out) (hT : T < 18446744073709551616 ^ N) : V out = T ∧ Sl wr.heap.size wr (some ⟨g, 0, none⟩) N out := by
  have h := E.low'
  rw [List.take_of_length_le (by rw [E.len]; exact Nat.le_refl _)] at h
  exact ⟨by rw [V, h, val_low, Nat.mod_eq_of_lt hT], E.own.sl⟩

theorem bound_add (xs ys : List Nat) (hx : Ws xs) (hy : Ws ys) (M : Nat) (h1 : xs.length ≤ M) (h2 : ys.length ≤ M) : V xs + V ys < 18446744073709551616 ^ (M + 1) := by
  have a := V_lt hx
  have b := V_lt hy
  have a' : V xs < 18446744073709551616 ^ M := Nat.lt_of_lt_of_le a (Nat.pow_le_pow_right (by decide) h1)
  have b' : V ys < 18446744073709551616 ^ M := Nat.lt_of_lt_of_le b (Nat.pow_le_pow_right (by decide) h2)
  rw [Nat.pow_succ]
  omega
theorem bound_sub (xs ys : List Nat) (hx : Ws xs) (M : Nat) (h1 : xs.length ≤ M) : V xs - V ys < 18446744073709551616 ^ (M + 1) := by
  have a := V_lt hx
  have a' : V xs < 18446744073709551616 ^ (M + 1) := Nat.lt_of_lt_of_le a (Nat.pow_le_pow_right (by decide) (by omega))
  omega

set_option maxHeartbeats 1000000 in
theorem each_add (H : Nat) (a b : Option Addr) (ca cb : Nat) (xs ys : List Nat) (p : Nat) (w : World) (hx : Sl H w a ca xs) (hy : Sl H w b cb ys) (hH : H ≤ p)
    (hlx : xs.length ≤ 900000) (hly : ys.length ≤ 900000) (hp : w.heap[p]? = some (.cells #[.int .u64 0] 36 (0, 0))) (hsz : w.heap.size = p + 1) :
    Calls Try.prog 50 #[.slice a xs.length ca, .slice b ys.length cb, .func (.func 51) #[] #[.pointer (some ⟨p, 0, none⟩)]] w fun e w' =>
      ∃ a' c', e = .returned (.slice a' (L (V xs + V ys)).length c') ∧ Own 36 (p + 1) w' a' c' (L (V xs + V ys)) ∧ Below p w w' := by
  obtain ⟨i0, hi, hz0, hz1, hz2⟩ := info_parts Try.info36
  have z0 := cin_zero 18446744073709551616 (V xs) (V ys)
  rcases Nat.lt_or_ge xs.length ys.length with hcmp | hcmp
  · 
    obtain ⟨wm, hmk, hown0, hgr0⟩ := run_make_full (P := Try.prog) w (p + 1) 23 36 i0 (.int .u64 0) 1 Try.underlying23 hi hz0 hz1 .i64 .i64 (ys.length + 1) (by rw [hz2]; omega) (by unfold maxLen; omega) (by omega)
    rw [Nat.mul_one, show (Value.int .u64 0).cells = #[Value.int .u64 0] from rfl, toList_madeCells_one] at hown0
    rw [show (((ys.length + 1 : Nat)) : Int) = (ys.length : Int) + 1 by omega] at hmk
    have hsz1 := hgr0.size
    have hb0 : Below p w wm := (Below.refl _ _).grown hgr0 (by omega) (fun k hk => by cases hk)
    have hp1 := (hgr0.block p (by omega) (by simp)).trans hp
    rw [hsz] at hown0 hmk
    have E0 : EachAt w wm H p (p + 1) (ys.length + 1) (V xs + V ys) (cin 18446744073709551616 (V xs) (V ys)) 0 (List.replicate (ys.length + 1) 0) :=
      ⟨by simp, by simp [low], ⟨Dig.zeros (by decide) _, by simpa [enc] using hown0⟩, by rw [z0]; exact hp1, hb0⟩
    clear hown0 hgr0 hp1 hb0
    have hEq := Lib.hid hmk
    have hbx : Below p w wm := E0.bel
    go_enter Try.func50, Try.ntmps50
    go_wp2_with (rw [hEq.out])
    go_loopw [8, 18] (fun _ s wr => ∃ i : Nat, s = .int .i64 i ∧ i ≤ ys.length + 1 ∧ ∃ out, EachAt w wr H p (p + 1) (ys.length + 1) (V xs + V ys) (cin 18446744073709551616 (V xs) (V ys)) i out) (fun _ s _ => ys.length + 1 - (intOf s).toNat)
    case atStart => exact ⟨0, rfl, by omega, _, E0⟩
    case round =>
      obtain ⟨i, rfl, hi', out, E⟩ := hrel
      by_cases hlt : i < ys.length + 1
      · have nx := EachAt.next E hlt (by omega)
        have ⟨hc, hf⟩ := E.cell
        have ho := E.own.cell i (by rw [E.len]; exact hlt)
        have hof := E.own.free i
        have sx := hx.below E.bel hH
        have sy := hy.below E.bel hH
        have bx := lim_lt xs hx.dig i
        have by' := lim_lt ys hy.dig i
        have st := add_step 18446744073709551616 (V xs) (V ys) i (by decide)
        rw [← V_dg hx.dig, ← V_dg hy.dig, ← lim_nat, ← lim_nat] at st
        have cl := cin_le 18446744073709551616 (V xs) (V ys) i (by decide)
        have ST := Lib.hid st
        clear st
        have NX := Lib.hid nx
        clear nx
        go_wp2_with fail
        refine (limb H a ca xs _ _ sx).mono ?_; rintro e1 w1 ⟨rfl, rfl⟩
        go_wp2_with fail
        refine (limb H b cb ys _ _ sy).mono ?_; rintro e1 w1 ⟨rfl, rfl⟩
        go_wp2_with fail
        refine (add1 _ _ _ p _ (by omega) (by omega) (by omega) (by omega) hc hf).mono ?_; rintro e1 w1 ⟨rfl, rfl⟩
        go_wp2_with fail
        go_roundw
        case rel => exact ⟨i + 1, by go_num, by omega, _, NX.out _ _ (by have := ST.out.2; omega) (by have := ST.out.1; omega)⟩
        case measure => simp [intOf]; omega
      · obtain rfl : i = ys.length + 1 := by omega
        obtain ⟨hv, hsl⟩ := E.done (bound_add xs ys hx.dig hy.dig _ (by omega) (by omega))
        have hlen := E.len
        have c := trim _ _ _ out wr hsl (Nat.le_refl _) (by omega)
        rw [hv, hlen] at c
        have C := Lib.hid c
        have ebel := E.bel
        have esz := E.own.ge.2
        clear c hv hsl
        go_wp2_with fail
        refine C.out.mono ?_
        rintro e w1 ⟨a1, c1, rfl, ho, hb⟩
        have hf : Hid (Own 36 (p + 1) w1 a1 c1 (L (V xs + V ys)) ∧ Below p w w1) := ⟨ho.mono (by omega), ebel.trans (hb.mono (by omega))⟩
        clear ho hb
        go_wp2
        go_ret
        exact ⟨a1, c1, rfl, hf.out⟩

  · 
    obtain ⟨wm, hmk, hown0, hgr0⟩ := run_make_full (P := Try.prog) w (p + 1) 23 36 i0 (.int .u64 0) 1 Try.underlying23 hi hz0 hz1 .i64 .i64 (xs.length + 1) (by rw [hz2]; omega) (by unfold maxLen; omega) (by omega)
    rw [Nat.mul_one, show (Value.int .u64 0).cells = #[Value.int .u64 0] from rfl, toList_madeCells_one] at hown0
    rw [show (((xs.length + 1 : Nat)) : Int) = (xs.length : Int) + 1 by omega] at hmk
    have hsz1 := hgr0.size
    have hb0 : Below p w wm := (Below.refl _ _).grown hgr0 (by omega) (fun k hk => by cases hk)
    have hp1 := (hgr0.block p (by omega) (by simp)).trans hp
    rw [hsz] at hown0 hmk
    have E0 : EachAt w wm H p (p + 1) (xs.length + 1) (V xs + V ys) (cin 18446744073709551616 (V xs) (V ys)) 0 (List.replicate (xs.length + 1) 0) :=
      ⟨by simp, by simp [low], ⟨Dig.zeros (by decide) _, by simpa [enc] using hown0⟩, by rw [z0]; exact hp1, hb0⟩
    clear hown0 hgr0 hp1 hb0
    have hEq := Lib.hid hmk
    have hbx : Below p w wm := E0.bel
    go_enter Try.func50, Try.ntmps50
    go_wp2_with (rw [hEq.out])
    go_loopw [8, 18] (fun _ s wr => ∃ i : Nat, s = .int .i64 i ∧ i ≤ xs.length + 1 ∧ ∃ out, EachAt w wr H p (p + 1) (xs.length + 1) (V xs + V ys) (cin 18446744073709551616 (V xs) (V ys)) i out) (fun _ s _ => xs.length + 1 - (intOf s).toNat)
    case atStart => exact ⟨0, rfl, by omega, _, E0⟩
    case round =>
      obtain ⟨i, rfl, hi', out, E⟩ := hrel
      by_cases hlt : i < xs.length + 1
      · have nx := EachAt.next E hlt (by omega)
        have ⟨hc, hf⟩ := E.cell
        have ho := E.own.cell i (by rw [E.len]; exact hlt)
        have hof := E.own.free i
        have sx := hx.below E.bel hH
        have sy := hy.below E.bel hH
        have bx := lim_lt xs hx.dig i
        have by' := lim_lt ys hy.dig i
        have st := add_step 18446744073709551616 (V xs) (V ys) i (by decide)
        rw [← V_dg hx.dig, ← V_dg hy.dig, ← lim_nat, ← lim_nat] at st
        have cl := cin_le 18446744073709551616 (V xs) (V ys) i (by decide)
        have ST := Lib.hid st
        clear st
        have NX := Lib.hid nx
        clear nx
        go_wp2_with fail
        refine (limb H a ca xs _ _ sx).mono ?_; rintro e1 w1 ⟨rfl, rfl⟩
        go_wp2_with fail
        refine (limb H b cb ys _ _ sy).mono ?_; rintro e1 w1 ⟨rfl, rfl⟩
        go_wp2_with fail
        refine (add1 _ _ _ p _ (by omega) (by omega) (by omega) (by omega) hc hf).mono ?_; rintro e1 w1 ⟨rfl, rfl⟩
        go_wp2_with fail
        go_roundw
        case rel => exact ⟨i + 1, by go_num, by omega, _, NX.out _ _ (by have := ST.out.2; omega) (by have := ST.out.1; omega)⟩
        case measure => simp [intOf]; omega
      · obtain rfl : i = xs.length + 1 := by omega
        obtain ⟨hv, hsl⟩ := E.done (bound_add xs ys hx.dig hy.dig _ (by omega) (by omega))
        have hlen := E.len
        have c := trim _ _ _ out wr hsl (Nat.le_refl _) (by omega)
        rw [hv, hlen] at c
        have C := Lib.hid c
        have ebel := E.bel
        have esz := E.own.ge.2
        clear c hv hsl
        go_wp2_with fail
        refine C.out.mono ?_
        rintro e w1 ⟨a1, c1, rfl, ho, hb⟩
        have hf : Hid (Own 36 (p + 1) w1 a1 c1 (L (V xs + V ys)) ∧ Below p w w1) := ⟨ho.mono (by omega), ebel.trans (hb.mono (by omega))⟩
        clear ho hb
        go_wp2
        go_ret
        exact ⟨a1, c1, rfl, hf.out⟩

theorem add (H : Nat) (a b : Option Addr) (ca cb : Nat) (xs ys : List Nat) (w : World) (hx : Sl H w a ca xs) (hy : Sl H w b cb ys) (hH : H ≤ w.heap.size) (hlx : xs.length ≤ 900000) (hly : ys.length ≤ 900000) :
    Calls Try.prog 27 #[.slice a xs.length ca, .slice b ys.length cb] w (Gives 36 w (L (V xs + V ys))) := by
  have hbel : Below w.heap.size w (w.alloc (.cells #[.int .u64 0] 36)) := (Below.refl _ w).alloc (Nat.le_refl _) _
  have c := each_add H a b ca cb xs ys w.heap.size (w.alloc (.cells #[.int .u64 0] 36)) (hx.below hbel hH) (hy.below hbel hH) hH hlx hly (heap_alloc_new w _) (by simp)
  have C := Lib.hid c
  clear c
  go_enter Try.func27, Try.ntmps27
  go_wp2_with fail
  refine C.out.mono ?_
  rintro e w1 ⟨a1, c1, rfl, ho, hb⟩
  have hf : Hid (Gives 36 w (L (V xs + V ys)) (.returned (.slice a1 (L (V xs + V ys)).length c1)) w1) := ⟨a1, c1, rfl, ho.mono (by omega), hbel.trans hb⟩
  clear ho hb hbel
  go_wp2
  go_ret
  exact hf.out

end Go.Proofs.NT
