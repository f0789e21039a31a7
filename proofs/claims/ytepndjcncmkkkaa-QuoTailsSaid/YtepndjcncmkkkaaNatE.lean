/- Contract of nat.Mul: a product limb by limb. Every slice is read as a list of words below 2^64, at most 400000 of them. -/
import Derived.Test.YtepndjcncmkkkaaNatD
import Derived.Test.YtepndjcncmkkkaaWMul
namespace Go.Proofs.NT
open Go.RowKit
open Go.Proofs
open Go.Proofs.NP
open Go.Proofs.SL
set_option linter.unusedVariables false

/-- between the rows of a product -/
structure MulAt (w wr : World) (g N : Nat) (xs ys os : List Nat) (i : Nat) : Prop where
  len : os.length = N
  own : Own 36 w.heap.size wr (some ⟨g, 0, none⟩) N os
  rows : NP.Rows 18446744073709551616 os xs ys i
  bel : Below w.heap.size w wr

/-- inside a row -/
structure MulIn (w wr : World) (g N : Nat) (ys os os' : List Nat) (x i k over : Nat) : Prop where
  len : os'.length = N
  own : Own 36 w.heap.size wr (some ⟨g, 0, none⟩) N os'
  row : NP.Row 18446744073709551616 os os' x ys i k over
  bel : Below w.heap.size w wr

theorem MulIn.next {w wr : World} {g N : Nat} {ys os os' : List Nat} {x i k over : Nat} (R : MulIn w wr g N ys os os' x i k over) (hx : x < 18446744073709551616) (hys : Ws ys) (hk : k < ys.length) (hl : i + k < os.length) (D : Int) (v : Nat)
    (hv : v = (x * ys[k] + over + os'[i + k]?.getD 0) / 18446744073709551616) (hD : D = ((x * ys[k] + over + os'[i + k]?.getD 0) % 18446744073709551616 : Nat)) :
    ∃ os'', MulIn w (wr.setCell ⟨g, i + k, none⟩ (.int .u64 D)) g N ys os os'' x i (k + 1) v := by
  subst hv; subst hD
  have o2 := R.own.store (i + k) ((x * ys[k] + over + os'[i + k]?.getD 0) % 18446744073709551616) (Nat.mod_lt _ (by decide))
  have hg := R.own.ge.1
  refine ⟨_, ⟨by rw [List.length_set]; exact R.len, o2.1, R.row.next (by decide) hx hys hk hl, R.bel.setCell (p := ⟨g, i + k, none⟩) hg _⟩⟩

theorem MulIn.done {w wr : World} {g N : Nat} {xs ys os os' : List Nat} {i over : Nat} (hi : i < xs.length) (A : NP.Rows 18446744073709551616 os xs ys i) (hxs : Ws xs) (hys : Ws ys) (R : MulIn w wr g N ys os os' xs[i] i ys.length over) :
    ∃ os'', MulAt w (wr.setCell ⟨g, i + ys.length, none⟩ (.int .u64 (over : Nat))) g N xs ys os'' (i + 1) := by
  have o2 := R.own.store (i + ys.length) over R.row.ov
  have hg := R.own.ge.1
  exact ⟨_, ⟨by rw [List.length_set]; exact R.len, o2.1, A.next (by decide) hxs hys hi R.row, R.bel.setCell (p := ⟨g, i + ys.length, none⟩) hg _⟩⟩

theorem mulP (x y : Nat) (hx : x < 18446744073709551616) (hy : y < 18446744073709551616) : ∃ P : Int, P = (x * y : Nat) ∧ 0 ≤ P ∧ P ≤ 340282366920938463426481119284349108225 ∧
    ∀ w, Calls Try.prog 44 #[.int .u64 (x : Int), .int .u64 (y : Int)] w fun e w' => e = .returned (.tuple #[.int .u64 (P / 18446744073709551616), .int .u64 (P % 18446744073709551616)]) ∧ w = w' := by
  refine ⟨((x * y : Nat) : Int), rfl, by omega, ?_, ?_⟩
  · have := Nat.mul_le_mul (show x ≤ 18446744073709551615 by omega) (show y ≤ 18446744073709551615 by omega)
    omega
  · intro w
    have h := W.mul (x : Int) (y : Int) (by omega) (by omega) (by omega) (by omega) w
    rw [W.mulN] at h
    exact h

set_option maxHeartbeats 1000000 in
theorem mul (H : Nat) (a b : Option Addr) (ca cb : Nat) (xs ys : List Nat) (w : World) (hx : Sl H w a ca xs) (hy : Sl H w b cb ys) (hH : H ≤ w.heap.size) (hlx : xs.length ≤ 400000) (hly : ys.length ≤ 400000) :
    Calls Try.prog 22 #[.slice a xs.length ca, .slice b ys.length cb] w (Gives 36 w (L (V xs * V ys))) := by
  obtain ⟨i0, hi, hz0, hz1, hz2⟩ := info_parts Try.info36
  obtain ⟨wm, hmk, hown0, hgr0⟩ := run_make_full (P := Try.prog) w w.heap.size 23 36 i0 (.int .u64 0) 1 Try.underlying23 hi hz0 hz1 .i64 .i64 (xs.length + ys.length) (by rw [hz2]; omega) (by unfold maxLen; omega) (Nat.le_refl _)
  rw [Nat.mul_one, show (Value.int .u64 0).cells = #[Value.int .u64 0] from rfl, toList_madeCells_one] at hown0
  rw [show (((xs.length + ys.length : Nat)) : Int) = (xs.length : Int) + (ys.length : Int) by omega] at hmk
  have E0 : MulAt w wm w.heap.size (xs.length + ys.length) xs ys (List.replicate (xs.length + ys.length) 0) 0 :=
    ⟨by simp, ⟨Dig.zeros (by decide) _, by simpa [enc] using hown0⟩, ⟨by simp, Dig.zeros (by decide) _, by simp [val_zeros, val]⟩, (Below.refl _ _).grown hgr0 (Nat.le_refl _) (fun k hk => by cases hk)⟩
  clear hown0 hgr0
  have hEq := Lib.hid hmk
  clear hmk
  go_enter Try.func22, Try.ntmps22
  go_wp2_with (rw [hEq.out])
  go_loopw [22] (fun s wr => ∃ i : Nat, s = .int .i64 i ∧ i ≤ xs.length ∧ ∃ os, MulAt w wr w.heap.size (xs.length + ys.length) xs ys os i) (fun s _ => xs.length - (intOf s).toNat)
  case atStart => exact ⟨0, rfl, by omega, _, E0⟩
  case round =>
    obtain ⟨i, rfl, hi', os, E⟩ := hrel
    by_cases hlt : i < xs.length
    · rcases hx.at' with rfl | ⟨bx, ox, rfl, hbx, cx⟩
      · simp at hlt
      have cx := cx i hlt
      have bx' := hx.dig.get i hlt
      have e0 := E.bel.cell (p := ⟨bx, ox + i, none⟩) (by show bx < _; omega)
      have cx' : wr.cell? ⟨bx, ox + i, none⟩ = some (.int .u64 (xs[i] : Nat)) := by rw [e0]; exact cx
      have hol := E.len
      obtain ⟨wo, rfl⟩ : ∃ wo : World, wo = wr := ⟨_, rfl⟩
      clear e0 cx
      go_wp2_with fail
      go_loopw [8, 29] (fun s8 s29 wr => ∃ k over : Nat, s8 = .int .u64 over ∧ s29 = .int .i64 k ∧ k ≤ ys.length ∧ ∃ os', MulIn w wr w.heap.size (xs.length + ys.length) ys os os' xs[i] i k over) (fun _ s _ => ys.length - (intOf s).toNat)
      case atStart => exact ⟨0, 0, rfl, rfl, by omega, os, ⟨hol, E.own, Row.start (by decide) E.rows.dig, E.bel⟩⟩
      case round =>
        obtain ⟨k, over, rfl, rfl, hk', os', R⟩ := hrel
        by_cases hlt2 : k < ys.length
        · rcases hy.at' with rfl | ⟨by1, oy, rfl, hby, cy⟩
          · simp at hlt2
          have cy := cy k hlt2
          have by' := hy.dig.get k hlt2
          have e0 := R.bel.cell (p := ⟨by1, oy + k, none⟩) (by show by1 < _; omega)
          have cy' : wr.cell? ⟨by1, oy + k, none⟩ = some (.int .u64 (ys[k] : Nat)) := by rw [e0]; exact cy
          clear e0 cy
          have co := R.own.cell (i + k) (by rw [R.len]; omega)
          have cf := R.own.free (i + k)
          have bo := R.own.dig.getD (by decide) (i + k)
          have bv := R.row.ov
          obtain ⟨P, hP, hP0, hP1, hM⟩ := mulP xs[i] ys[k] bx' by'
          have nx := R.next bx' hy.dig hlt2 (by rw [hol]; omega)
          have HP := Lib.hid hP
          have HM := Lib.hid hM
          have NX := Lib.hid nx
          clear hP hM nx
          go_wp2_with fail
          refine (HM.out _).mono ?_; rintro e1 w1 ⟨rfl, rfl⟩
          go_wp2_with fail
          refine (W.add0 _ _ (by omega) (by omega) _).mono ?_; rintro e1 w1 ⟨rfl, rfl⟩
          go_wp2_with fail
          refine (W.add0 _ _ (by omega) (by omega) _).mono ?_; rintro e1 w1 ⟨rfl, rfl⟩
          go_wp2_with fail
          go_roundw
          case rel =>
            obtain ⟨os'', R'⟩ := NX.out ((P + ↑over + ↑(os'[i + k]?.getD 0)) % 18446744073709551616) ((xs[i] * ys[k] + over + os'[i + k]?.getD 0) / 18446744073709551616) rfl (by have := HP.out; omega)
            exact ⟨k + 1, (xs[i] * ys[k] + over + os'[i + k]?.getD 0) / 18446744073709551616, W.val_int (by have := HP.out; omega), by go_num, by omega, os'', R'⟩
          case measure => simp [intOf]; omega
        · obtain rfl : k = ys.length := by omega
          obtain ⟨os'', A'⟩ := MulIn.done hlt E.rows hx.dig hy.dig R
          have co := R.own.cell (i + ys.length) (by rw [R.len]; omega)
          have cf := R.own.free (i + ys.length)
          have A := Lib.hid A'
          clear A'
          go_wp2_with fail
          go_roundw
          case rel => exact ⟨i + 1, by go_num, by omega, os'', A.out⟩
          case measure => simp [intOf]; omega
    · obtain rfl : i = xs.length := by omega
      have hv := E.rows.done
      have c := trim _ _ _ os wr E.own.sl (Nat.le_refl _) (by rw [E.len]; omega)
      rw [show V os = V xs * V ys from hv, E.len] at c
      have C := Lib.hid c
      have ebel := E.bel
      have esz := E.own.ge.2
      clear c hv
      go_wp2_with fail
      refine C.out.mono ?_
      rintro e w1 ⟨a1, c1, rfl, ho, hb⟩
      have hf : Hid (Gives 36 w (L (V xs * V ys)) (.returned (.slice a1 (L (V xs * V ys)).length c1)) w1) := ⟨a1, c1, rfl, ho.mono (by omega), ebel.trans (hb.mono (by omega))⟩
      clear ho hb
      go_wp2
      go_ret
      exact hf.out
end Go.Proofs.NT
