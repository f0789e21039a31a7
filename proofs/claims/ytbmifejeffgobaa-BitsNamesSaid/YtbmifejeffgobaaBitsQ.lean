/- Strings of bits: the examples that every statement asks: awake answers true. -/
import Derived.Test.YtbmifejeffgobaaBitsP
import Derived.Test.YtbmifejeffgobaaBitsM
namespace Go.Proofs.BT
open Go.RowKit
open Go.Proofs
open Go.Proofs.RO
open Go.Shelf
open Go
set_option linter.unusedVariables false
set_option linter.unusedSimpArgs false
attribute [local go_sem] Oper.semAt_some
theorem Ret.eq {f : Nat} {args : Array Value} {v v' : Value} (h : Ret f args v) (e : v = v') : Ret f args v' := e ▸ h
theorem aw_next1 : Ret 15 #[.string ⟨#[48, 49, 49]⟩] (.tuple #[.string ⟨#[49, 48, 48]⟩, .bool true]) :=
  Ret.eq (fun w => next1_up ⟨#[48, 49, 49]⟩ w (by decide) (by decide +kernel) 0 (by decide) (by decide) (by decide +kernel)) (by first | (congr 2; done) | (congr 2; decide +kernel))
theorem aw_next2 : Ret 15 #[.string ⟨#[49, 49]⟩] (.tuple #[.string ⟨#[48, 48, 48]⟩, .bool true]) :=
  Ret.eq (fun w => next1_more ⟨#[49, 49]⟩ w (by decide) (by decide +kernel) (by decide +kernel)) (by congr 2)
theorem aw_cut : Ret 17 #[.string ⟨#[49, 48, 49, 49, 48]⟩, .int .i64 1, .int .i64 2] (.tuple #[.string ⟨#[49, 49, 48]⟩, .int .i64 0]) :=
  Ret.eq (.drew fun w => cut1 ⟨#[49, 48, 49, 49, 48]⟩ 1 2 w (by decide) (by decide +kernel) (by decide) (by decide)) (by first | (congr 2; done) | (congr 2; decide +kernel))
theorem aw_clear : Ret 19 #[.string ⟨#[49, 48, 49, 49, 48]⟩, .int .i64 2, .int .i64 2] (.tuple #[.string ⟨#[49, 48, 48, 48, 48]⟩, .int .i64 0]) :=
  Ret.eq (fun w => clear1 ⟨#[49, 48, 49, 49, 48]⟩ 2 2 w (by decide) (by decide +kernel) (by decide) (by decide)) (by first | (congr 2; done) | (congr 2; decide +kernel))
theorem aw_down1 : Ret 21 #[.string ⟨#[49, 48, 49, 49, 48]⟩, .int .i64 2] (.tuple #[.string ⟨#[49, 48, 48, 49, 49]⟩, .int .i64 0]) :=
  Ret.eq (fun w => down1 ⟨#[49, 48, 49, 49, 48]⟩ 2 w (by decide) (by decide +kernel) (by decide) (by decide)) (by first | (congr 2; done) | (congr 2; decide +kernel))
theorem aw_down2 : Ret 21 #[.string ⟨#[49, 48, 49, 49, 48]⟩, .int .i64 1] (.tuple #[.string ⟨#[]⟩, .int .i64 1]) :=
  .of fun w => down1_zero ⟨#[49, 48, 49, 49, 48]⟩ 1 w (by decide) (by decide +kernel) (by decide) (by decide)
theorem aw_num : Ret 7 #[.string ⟨#[48, 49, 48, 49]⟩] (.tuple #[.int .u64 5, .int .i64 0]) :=
  .of fun w => num1 ⟨#[48, 49, 48, 49]⟩ w (by decide) (by decide +kernel) 5 (by decide +kernel)
theorem aw_of1 : Ret 9 #[.int .u64 5, .int .i64 4] (.tuple #[.string ⟨#[48, 49, 48, 49]⟩, .int .i64 0]) :=
  fun w => of1_ok 5 4 w (by decide) (by decide) (by decide) ⟨#[48, 49, 48, 49]⟩ (by decide +kernel)
theorem aw_of2 : Ret 9 #[.int .u64 5, .int .i64 2] (.tuple #[.string ⟨#[]⟩, .int .i64 1]) :=
  .of fun w => of1_big 5 2 w (by decide) (by decide) (by decide)
theorem aw_cmp1 : Ret 13 #[.string ⟨#[49]⟩, .string ⟨#[48, 48]⟩] (.int .i64 (-1)) :=
  .of fun w => cmp1 ⟨#[49]⟩ ⟨#[48, 48]⟩ w (by decide) (by decide) (-1) (by decide +kernel)
theorem aw_cmp2 : Ret 13 #[.string ⟨#[48, 49]⟩, .string ⟨#[49, 48]⟩] (.int .i64 (-1)) :=
  .of fun w => cmp1 ⟨#[48, 49]⟩ ⟨#[49, 48]⟩ w (by decide) (by decide) (-1) (by decide +kernel)
theorem aw_cmp3 : Ret 13 #[.string ⟨#[49]⟩, .string ⟨#[49]⟩] (.int .i64 0) :=
  .of fun w => cmp1 ⟨#[49]⟩ ⟨#[49]⟩ w (by decide) (by decide) 0 (by decide +kernel)
theorem aw_is1 : Ret 11 #[.string ⟨#[]⟩] (.bool true) := .of fun w => is1 ⟨#[]⟩ w (by decide) true (by decide +kernel)
theorem aw_is2 : Ret 11 #[.string ⟨#[50]⟩] (.bool false) := .of fun w => is1 ⟨#[50]⟩ w (by decide) false (by decide +kernel)
theorem aw_all : ∀ w : World, Calls Try.prog 23 #[.int .i64 2] w (fun e w' => e = .returned (.func (.func 31) #[] #[.pointer (some ⟨w.heap.size, 0, none⟩)]) ∧ w.alloc (.cells #[.int .i64 2] 3) = w') := fun w => all_mk 2 w
/-- a function value is not nil -/
theorem run_eql_nil {P : Program} {t : TypeId} {a b : Array TypeId} {c : Bool} (ht : P.underlying t = some (.func a b c)) (f : Fn) (fs cs : Array Value) (w : World) : (binOp .eql t (.func f fs cs) .nilFunc).run P w = .ok (.bool false) w := by
  have h : (Op.equal t (.func f fs cs) .nilFunc).run P w = .ok false w := by
    unfold Op.equal
    rw [show Op.maxDepth = (Op.maxDepth - 1) + 1 from rfl]
    unfold Op.equalIn
    simp [Sem.run_bind, run_underlying ht, Result.andThen]
  simp [binOp, Sem.run_bind, h, Result.andThen]
/-- a call inside the wide fence -/
theorem Ret.into {f : Nat} {args : Array Value} {v : Value} (h : Ret f args v) (n : Nat) (w : World) : CallsIn Fence.wide n Try.prog f args w (fun e w' => e = .returned v ∧ Below w.heap.size w w') := callsIn_wide.2 (h w)
/-- the row that the examples lay: the first k of the four, with a space behind each -/
def rowS : Nat → ByteArray
  | 0 => ⟨#[]⟩
  | k + 1 => rowS k ++ ofB k 2 ++ ⟨#[32]⟩
theorem rowS_next (k : Nat) (h : k < 4) : rowS k ++ ofB k 2 ++ ⟨#[32]⟩ = rowS (k + 1) := rfl
theorem rowS_size (k : Nat) (h : k < 4) : (rowS k).size ≤ 100 := by
  match k, h with
  | 0, _ => decide
  | 1, _ => decide +kernel
  | 2, _ => decide +kernel
  | 3, _ => decide +kernel
set_option maxHeartbeats 4000000 in
set_option maxRecDepth 100000 in
theorem awake (w : World) : Calls Try.prog 6 #[] w fun e w' => e = .returned (.bool true) ∧ Below w.heap.size w w' := by
  refine (callsIn_wide (n := 12)).1 ?_
  refine callsIn_of_wp_marks Try.func6 rfl trivial ?_ rfl
  simp only [Try.ntmps6, List.size_toArray, List.length_cons, List.length_nil, Nat.reduceAdd, Nat.reduceSub, Array.replicate_succ, Array.replicate_zero, List.push_toArray, List.append_toArray, List.nil_append, List.cons_append]
  gi_wp2_with fail
  have K : Below w.heap.size w w := Below.refl _ _
  refine ⟨trivial, ?_⟩
  refine (aw_next1.into _ _).mono ?_; rintro e w1 ⟨rfl, hb⟩
  replace K : Below w.heap.size w w1 := K.trans (hb.mono K.size)
  clear hb
  gi_wp2_with fail
  refine ⟨trivial, ?_⟩
  refine (aw_next2.into _ _).mono ?_; rintro e w2 ⟨rfl, hb⟩
  replace K : Below w.heap.size w w2 := K.trans (hb.mono K.size)
  clear hb
  gi_wp2_with fail
  refine ⟨trivial, ?_⟩
  refine (aw_cut.into _ _).mono ?_; rintro e w3 ⟨rfl, hb⟩
  replace K : Below w.heap.size w w3 := K.trans (hb.mono K.size)
  clear hb
  gi_wp2_with fail
  refine ⟨trivial, ?_⟩
  refine (aw_clear.into _ _).mono ?_; rintro e w4 ⟨rfl, hb⟩
  replace K : Below w.heap.size w w4 := K.trans (hb.mono K.size)
  clear hb
  gi_wp2_with fail
  refine ⟨trivial, ?_⟩
  refine (aw_down1.into _ _).mono ?_; rintro e w5 ⟨rfl, hb⟩
  replace K : Below w.heap.size w w5 := K.trans (hb.mono K.size)
  clear hb
  gi_wp2_with fail
  refine ⟨trivial, ?_⟩
  refine (aw_down2.into _ _).mono ?_; rintro e w6 ⟨rfl, hb⟩
  replace K : Below w.heap.size w w6 := K.trans (hb.mono K.size)
  clear hb
  gi_wp2_with fail
  refine ⟨trivial, ?_⟩
  refine (aw_num.into _ _).mono ?_; rintro e w7 ⟨rfl, hb⟩
  replace K : Below w.heap.size w w7 := K.trans (hb.mono K.size)
  clear hb
  gi_wp2_with fail
  refine ⟨trivial, ?_⟩
  refine (aw_of1.into _ _).mono ?_; rintro e w8 ⟨rfl, hb⟩
  replace K : Below w.heap.size w w8 := K.trans (hb.mono K.size)
  clear hb
  gi_wp2_with fail
  refine ⟨trivial, ?_⟩
  refine (aw_of2.into _ _).mono ?_; rintro e w9 ⟨rfl, hb⟩
  replace K : Below w.heap.size w w9 := K.trans (hb.mono K.size)
  clear hb
  gi_wp2_with fail
  refine ⟨trivial, ?_⟩
  refine (callsIn_wide.2 (aw_all _)).mono ?_; rintro e w10 ⟨rfl, rfl⟩
  gi_wp2_with (rw [run_eql_nil Try.underlying40])
  have bR0 := Boxed.new w9 9 (.string ⟨#[]⟩)
  have bR := bR0.alloc (.cells #[.int .i64 2] 3)
  have bN := Boxed.new (w9.alloc (.cells #[.string ⟨#[]⟩] 9)) 3 (.int .i64 2)
  rw [World.size_alloc] at bN
  have K2 : Below w.heap.size w ((w9.alloc (.cells #[.string ⟨#[]⟩] 9)).alloc (.cells #[.int .i64 2] 3)) := (K.alloc K.size _).alloc (by simp; have := K.size; omega) _
  have hs : ((w9.alloc (.cells #[.string ⟨#[]⟩] 9)).alloc (.cells #[.int .i64 2] 3)).heap.size = w9.heap.size + 2 := by simp
  have h9 := K.size
  clear bR0 K
  generalize ((w9.alloc (.cells #[.string ⟨#[]⟩] 9)).alloc (.cells #[.int .i64 2] 3)) = V at *
  refine rangeO rfl (by decide) (gf := 31) (lb := #[.pointer (some ⟨w9.heap.size + 1, 0, none⟩)]) rfl trivial (enters_of Try.func31 (by kernel_rfl) rfl)
    (all_seq _ (w9.heap.size + 1) 2 4 rfl V (by omega) (by decide) bN.cell) (Below.refl _ _) (fun l h1 h2 h => by rcases h with h | h <;> omega) (fun _ => rfl)
    (fun k X => Boxed X w9.heap.size 9 (.string (rowS k)) ∧ Below w.heap.size w X)
    (fun _ _ _ => False)
    (OwnFrom.and (Own.from (boxed_own _ _ _) _) (ownFrom_below (Nat.le_refl _) (by omega)))
    (fun _ _ _ _ _ hs _ _ => hs)
    ⟨bR, K2⟩ ?round ?done ?stop
  case round =>
    intro lr k V0 hlr hk
    gi_wp2
    refine ⟨rfl, ?_⟩
    rintro X ⟨bX, KX⟩
    have hc := bX.cell
    have hf := bX.frozen
    have HS := Lib.hid (rowS_next k hk)
    have hz1 : (rowS k).size ≤ 100 := rowS_size k hk
    have hz2 : (ofB k 2).size ≤ 100 := by rw [ofB_size]; decide
    gi_wp2_with fail
    refine ⟨⟨(KeepsOthers.setCell _ _ _).from _, Kb.grown (grownBy_setCell' X w9.heap.size _) (fun r e => by cases e; intro h; rcases h with h | h <;> omega)⟩, ?_, KX.setCell (p := ⟨w9.heap.size, 0, none⟩) h9 _⟩
    rw [← HS.out]
    exact bX.set _
  case done =>
    rintro D X hD ⟨bX, KX⟩ hK
    have hc : X.cell? ⟨w9.heap.size, 0, none⟩ = some (.string ⟨#[48, 48, 32, 48, 49, 32, 49, 48, 32, 49, 49, 32]⟩) := by
      have e : rowS 4 = ⟨#[48, 48, 32, 48, 49, 32, 49, 48, 32, 49, 49, 32]⟩ := by decide +kernel
      rw [← e]; exact bX.cell
    clear bX bR bN K2
    gi_wp2_with fail
    refine ⟨trivial, ?_⟩
    refine (aw_cmp1.into _ _).mono ?_; rintro e X1 ⟨rfl, hb⟩
    replace hK : X1.heap[D]? = some (.deferred (some [])) := (hb.block D (Array.getElem?_eq_some_iff.1 hK).1).trans hK
    replace hc := box_later hc hb
    replace KX : Below w.heap.size w X1 := KX.trans (hb.mono KX.size)
    clear hb
    gi_wp2_with fail
    refine ⟨trivial, ?_⟩
    refine (aw_cmp2.into _ _).mono ?_; rintro e X2 ⟨rfl, hb⟩
    replace hK : X2.heap[D]? = some (.deferred (some [])) := (hb.block D (Array.getElem?_eq_some_iff.1 hK).1).trans hK
    replace hc := box_later hc hb
    replace KX : Below w.heap.size w X2 := KX.trans (hb.mono KX.size)
    clear hb
    gi_wp2_with fail
    refine ⟨trivial, ?_⟩
    refine (aw_cmp3.into _ _).mono ?_; rintro e X3 ⟨rfl, hb⟩
    replace hK : X3.heap[D]? = some (.deferred (some [])) := (hb.block D (Array.getElem?_eq_some_iff.1 hK).1).trans hK
    replace hc := box_later hc hb
    replace KX : Below w.heap.size w X3 := KX.trans (hb.mono KX.size)
    clear hb
    gi_wp2_with fail
    refine ⟨trivial, ?_⟩
    refine (aw_is1.into _ _).mono ?_; rintro e X4 ⟨rfl, hb⟩
    replace hK : X4.heap[D]? = some (.deferred (some [])) := (hb.block D (Array.getElem?_eq_some_iff.1 hK).1).trans hK
    replace hc := box_later hc hb
    replace KX : Below w.heap.size w X4 := KX.trans (hb.mono KX.size)
    clear hb
    gi_wp2_with fail
    refine ⟨trivial, ?_⟩
    refine (aw_is2.into _ _).mono ?_; rintro e X5 ⟨rfl, hb⟩
    replace hK : X5.heap[D]? = some (.deferred (some [])) := (hb.block D (Array.getElem?_eq_some_iff.1 hK).1).trans hK
    replace hc := box_later hc hb
    replace KX : Below w.heap.size w X5 := KX.trans (hb.mono KX.size)
    clear hb
    gi_wp2_with fail
    refine ⟨by simp, .inl ⟨_, _, rfl, run_takeDeferred hK, ?_⟩⟩
    refine ⟨_, results_tmp rfl _ _ _, rfl, KX.grown (grownBy_putObj' _ D _) KX.size (fun k e => by cases e; omega)⟩
  case stop =>
    rintro D c k X hD hk h hK
    exact h.elim
end Go.Proofs.BT
