/- Strings of bits: all of so many bits, one behind the other. -/
import Derived.Test.YticickjnlkbkoaaBitsI
import Derived.Test.YticickjnlkbkoaaRange
namespace Go.Proofs.BT
open Go.RowKit
open Go.Proofs
open Go.Proofs.RO
open Go.Shelf
open Go
set_option linter.unusedVariables false
set_option linter.unusedSimpArgs false
attribute [local go_sem] Oper.semAt_some
/-- the numbers below one -/
theorem below_mk (F : Fence) (n : Nat) (hF : F.fn 55) (hro : F.round = none) (m : Int) (w : World) :
    CallsIn F n Try.prog 55 #[.int .u64 m] w fun e w' => e = .returned (.func (.func 78) #[] #[.pointer (some ⟨w.heap.size, 0, none⟩)]) ∧ w.alloc (.cells #[.int .u64 m] 74) = w' := by
  refine callsIn_of_wp Try.func55 rfl hF ?_ hro
  simp only [Try.ntmps55, List.size_toArray, List.length_cons, List.length_nil, Nat.reduceAdd, Nat.reduceSub, Array.replicate_succ, Array.replicate_zero, List.push_toArray, List.append_toArray, List.nil_append, List.cons_append]
  gi_wp2
  go_ret
  exact ⟨rfl, rfl⟩
set_option maxHeartbeats 1000000 in
theorem below_seq (F : Fence) (n : Nat) (hF : F.fn 78) (hro : F.round = none) (hn : 1 ≤ n) (B m : Nat) (w : World) (hB : B < w.heap.size) (hm : m ≤ 4096) (hc : w.cell? ⟨B, 0, none⟩ = some (.int .u64 (m : Int))) :
    SeqO F n Try.prog 78 #[.pointer (some ⟨B, 0, none⟩)] (fun _ _ _ => False) m (fun k => #[.int .u64 (k : Int)]) w := fun l J Jx W hW hJ hJx hY h0 => by
  have hc' := (hW.cell (p := ⟨B, 0, none⟩) hB).trans hc
  refine callsIn_of_wp Try.func78 rfl hF ?_ hro
  simp only [Try.ntmps78, List.size_toArray, List.length_cons, List.length_nil, Nat.reduceAdd, Nat.reduceSub, Array.replicate_succ, Array.replicate_zero, List.push_toArray, List.append_toArray, List.nil_append, List.cons_append]
  gi_wp2
  gi_loopw [5] (fun v wr => ∃ k : Nat, v = .int .u64 k ∧ k ≤ m ∧ J k wr) (fun v _ => m - (intOf v).toNat)
  case atStart => exact ⟨0, rfl, by omega, h0⟩
  case round =>
    obtain ⟨k, rfl, hk, hj⟩ := hrel
    by_cases hlt : k < m
    · obtain ⟨fn, tmps, assign, body, hy, hR⟩ := hY k wr hj hlt
      gi_wp2
      refine hR.mono ?_
      rintro e W3 ⟨-, (⟨rfl, hJ3⟩ | ⟨rfl, hJx3⟩)⟩
      · gi_wp2
        go_roundw
        case rel => exact ⟨k + 1, by go_num, by omega, hJ3⟩
        case measure => simp [intOf]; omega
      · gi_wp2
        refine bodyPost_ret (results_none rfl _ _ _) rfl ?_
        exact ⟨⟨_, rfl⟩, .inr ⟨k + 1, by omega, hJx3⟩⟩
    · obtain rfl : k = m := by omega
      gi_wp2
      go_end0
      exact ⟨⟨_, rfl⟩, .inl hj⟩
end Go.Proofs.BT
