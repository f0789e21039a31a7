/- Strings of bits: All. -/
import Derived.Test.YticickjnlkbkoaaBitsL
namespace Go.Proofs.BT
open Go.RowKit
open Go.Proofs
open Go.Proofs.RO
open Go.Shelf
open Go
set_option linter.unusedVariables false
set_option linter.unusedSimpArgs false
attribute [local go_sem] Oper.semAt_some
theorem all_mk (n : Int) (w : World) :
    Calls Try.prog 35 #[.int .i64 n] w fun e w' => e = .returned (.func (.func 54) #[] #[.pointer (some ⟨w.heap.size, 0, none⟩)]) ∧ w.alloc (.cells #[.int .i64 n] 3) = w' := by
  go_enter Try.func35, Try.ntmps35
  go_wp2_with fail
  go_ret
  exact ⟨rfl, rfl⟩
/-- what a round must keep: the box of n, and whatever was laid since the call began -/
def keepA (bn : Nat) (B k : Nat) (_ : Obj) : Prop := B ≤ k ∨ k = bn
theorem keepA_from {bn B D : Nat} {W W' : World} (h : Kb (keepA bn) B W W') (hD : B ≤ D) : KeepsFrom D W W' :=
  ⟨h.size, fun k o hk ho _ => h.same k o ho (.inl (by omega))⟩
theorem box_later {W W' : World} {b : Nat} {v : Value} (hc : W.cell? ⟨b, 0, none⟩ = some v) (h : Below W.heap.size W W') : W'.cell? ⟨b, 0, none⟩ = some v := cell_kept hc (grown_of_below h) (fun r e => by cases e)
set_option maxHeartbeats 2000000 in
theorem all_seq (n bn m M : Nat) (hM : M = 2 ^ m) (w : World) (hB : bn < w.heap.size) (hm : m ≤ 12) (hc : w.cell? ⟨bn, 0, none⟩ = some (.int .i64 (m : Int))) :
    SeqO Fence.wide n Try.prog 54 #[.pointer (some ⟨bn, 0, none⟩)] (keepA bn) M (fun k => #[.string (ofB k m)]) w := fun l J Jx W hW hJ hJx hY h0 => by
  have hc' := (hW.cell (p := ⟨bn, 0, none⟩) hB).trans hc
  have hc2 : (W.alloc (.cells #[.func (.yield l) #[] #[]] 72)).cell? ⟨bn, 0, none⟩ = some (.int .i64 (m : Int)) := cell_kept hc' (World.grownBy_alloc W _ none) (fun r e => by cases e)
  have hwr : IntKind.u64.wrap ((2 : Int) ^ m) = (M : Int) := by
    have h1 : (2 : Int) ^ m = ((2 ^ m : Nat) : Int) := by simp
    have h2 : 2 ^ m ≤ 2 ^ 12 := Nat.pow_le_pow_right (by decide) hm
    rw [h1, hM]; exact _root_.Go.Proofs.W.wrapN _ (by omega)
  have hm2 : M ≤ 4096 := by rw [hM]; exact Nat.pow_le_pow_right (by decide) hm
  have HMM := Lib.hid hM
  clear hM
  have hbn : bn < W.heap.size := by have := hW.size; omega
  refine callsIn_wide.2 (callsIn_wide (n := 9).1 ?_)
  refine callsIn_of_wp_marks Try.func54 rfl trivial ?_ rfl
  simp only [Try.ntmps54, List.size_toArray, List.length_cons, List.length_nil, Nat.reduceAdd, Nat.reduceSub, Array.replicate_succ, Array.replicate_zero, List.push_toArray, List.append_toArray, List.nil_append, List.cons_append]
  gi_wp2_with (refine ⟨trivial, ?_⟩; gi_at_call 55; refine (below_mk Fence.wide _ trivial rfl _ _).mono ?_; rintro e w' ⟨rfl, rfl⟩)
  have y0 : ((W.alloc (.cells #[.func (.yield l) #[] #[]] 72)).alloc (.cells #[.int .u64 (M : Int)] 74)).cell? ⟨W.heap.size, 0, none⟩ = some (.func (.yield l) #[] #[]) := cell_kept (Boxed.new W _ _).cell (World.grownBy_alloc _ _ none) (fun r e => by cases e)
  have n0 : ((W.alloc (.cells #[.func (.yield l) #[] #[]] 72)).alloc (.cells #[.int .u64 (M : Int)] 74)).cell? ⟨bn, 0, none⟩ = some (.int .i64 (m : Int)) := cell_kept hc2 (World.grownBy_alloc _ _ none) (fun r e => by cases e)
  have m0 : ((W.alloc (.cells #[.func (.yield l) #[] #[]] 72)).alloc (.cells #[.int .u64 (M : Int)] 74)).cell? ⟨W.heap.size + 1, 0, none⟩ = some (.int .u64 (M : Int)) := by
    have bN := Boxed.new (W.alloc (.cells #[.func (.yield l) #[] #[]] 72)) 74 (.int .u64 (M : Int))
    rw [World.size_alloc] at bN
    exact bN.cell
  have j0 : J 0 ((W.alloc (.cells #[.func (.yield l) #[] #[]] 72)).alloc (.cells #[.int .u64 (M : Int)] 74)) := hJ.alloc _ (hJ.alloc _ h0)
  have hs2 : ((W.alloc (.cells #[.func (.yield l) #[] #[]] 72)).alloc (.cells #[.int .u64 (M : Int)] 74)).heap.size = W.heap.size + 2 := by simp
  generalize ((W.alloc (.cells #[.func (.yield l) #[] #[]] 72)).alloc (.cells #[.int .u64 (M : Int)] 74)) = W2 at *
  refine rangeO rfl (by decide) (gf := 78) (lb := #[.pointer (some ⟨W.heap.size + 1, 0, none⟩)]) rfl trivial (enters_of Try.func78 (by kernel_rfl) rfl)
    (below_seq Fence.wide _ trivial rfl (by decide) (W.heap.size + 1) M W2 (by omega) hm2 m0) (Below.refl _ _) (fun _ _ _ _ _ h => h) (fun _ => rfl)
    (fun k V => J k V ∧ V.cell? ⟨W.heap.size, 0, none⟩ = some (.func (.yield l) #[] #[]) ∧ V.cell? ⟨bn, 0, none⟩ = some (.int .i64 (m : Int)))
    (fun c k V => c = .ret ∧ Jx k V)
    ((own_later hJ (by omega)).and (own_cell.and own_cell))
    (fun c => OwnFrom.and (ownFrom_pure _ _) (own_later hJx (by omega)))
    ⟨j0, y0, n0⟩
    ?round ?done ?stop
  case round =>
    intro lr k V0 hlr hk
    gi_wp2
    refine ⟨rfl, ?_⟩
    rintro V ⟨hj, hy0, hn0⟩
    have hz := Lib.hid (show k / 2 ^ m = 0 by rw [Nat.div_eq_of_lt]; rw [← HMM.out]; exact hk)
    have HY := Lib.hid (fun V4 (hb : Below V.heap.size V V4) => yield_any (F := Fence.wide) rfl 6 (hY k V4 (own_step hJ hj hb) hk))
    gi_wp2_with (refine ⟨trivial, ?_⟩; gi_at_call 56; refine (CallsIn.inRound lr (callsIn_wide.2 (of1_ok k m V (by omega) (by omega) hz.out (ofB k m) rfl))).mono ?_; rintro e V4 ⟨rfl, hb4⟩; obtain ⟨fn, tmps, assign, body, hy, hR⟩ := yield_in lr (HY.out V4 hb4); have hy4 := box_later hy0 hb4; have hn4 := box_later hn0 hb4)
    refine hR.mono ?_
    rintro e W5 ⟨hkb, (⟨rfl, hJ5⟩ | ⟨rfl, hJx5⟩)⟩
    · gi_wp2
      exact ⟨⟨(keepsFrom_below hb4).trans (keepA_from hkb (by omega)), Nat.le_trans hb4.size hkb.size, fun _ _ _ h => h.elim⟩, hJ5, hkb.cell (fun _ _ => .inl (Nat.le_refl _)) hy4, hkb.cell (fun _ _ => .inr rfl) hn4⟩
    · gi_wp2
      exact ⟨⟨(keepsFrom_below hb4).trans (keepA_from hkb (by omega)), Nat.le_trans hb4.size hkb.size, fun _ _ _ h => h.elim⟩, rfl, hJx5⟩
  case done =>
    rintro D V hD ⟨hj, hy0, hn0⟩ hK
    gi_wp2
    refine ⟨by simp, .inl ⟨_, _, rfl, run_takeDeferred hK, ?_⟩⟩
    exact ⟨_, results_none rfl _ _ _, ⟨_, rfl⟩, .inl (hJ.putObj _ hj (by omega) hK rfl)⟩
  case stop =>
    rintro D c k V hD hk ⟨rfl, hx⟩ hK
    gi_wp2
    refine ⟨by simp, .inl ⟨_, _, rfl, run_takeDeferred hK, ?_⟩⟩
    exact ⟨_, results_none rfl _ _ _, ⟨_, rfl⟩, .inr ⟨k, hk, hJx.putObj _ hx (by omega) hK rfl⟩⟩
end Go.Proofs.BT
