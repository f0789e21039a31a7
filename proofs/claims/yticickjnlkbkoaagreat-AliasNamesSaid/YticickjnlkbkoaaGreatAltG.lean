/- A region that draws its order and lays many blocks: one invariant bears every order. -/
import Derived.Orders
import Derived.WalkKit
import Derived.Below
import Derived.Test.YticickjnlkbkoaaGreatMN
namespace Go.Proofs.RL
open Go.RowKit
open Go.Proofs
open Go.Proofs.SL
open Go
set_option linter.unusedVariables false
variable {P : Program} {ops : Array Oper} {Q : Exit → Act → World → Prop} {md : Region.Mode}
/-- how many operations have not come up -/
def left9 (L : Array Bool) : Nat := L.toList.count false
theorem left9_zero {L : Array Bool} (h : left9 L = 0) (i : Nat) : L.getD i true = true := by
  unfold left9 at h
  rw [List.count_eq_zero] at h
  by_cases hi : i < L.size
  · have h1 : L.getD i true = L[i] := by simp [Array.getD, hi]
    rw [h1]
    cases e : L[i] with
    | true => rfl
    | false => exact absurd (by rw [← e]; exact Array.getElem_mem_toList hi) h
  · simp [Array.getD, hi]
theorem left9_set {L : Array Bool} {i : Nat} (hi : i < L.size) (h : L.getD i true = false) : left9 (L.setIfInBounds i true) + 1 = left9 L := by
  unfold left9
  have h1 : L[i] = false := by simpa [Array.getD, hi] using h
  have hl : i < L.toList.length := by simpa using hi
  have h2 : L.toList[i] = false := by simpa using h1
  rw [Array.toList_setIfInBounds, List.count_set hl, h2]
  have hp : 0 < L.toList.count false := List.count_pos_iff.2 (by rw [← h2]; exact List.getElem_mem hl)
  simp only [beq_self_eq_true, if_true, Bool.true_beq, Bool.false_eq_true, if_false]
  omega
theorem ready_of {L : Array Bool} {i : Nat} {o : Oper} (ho : ops[i]? = some o) (h : L.getD i true = false) (he : ∀ e ∈ o.after, L.getD e.on false = true) : i ∈ Region.ready md ops L := by
  have hi : i < ops.size := (Array.getElem?_eq_some_iff.1 ho).1
  unfold Region.ready
  rw [List.mem_filter]
  refine ⟨List.mem_range.2 hi, ?_⟩
  rw [ho]
  simp only [h, Bool.not_false, Option.map_some, Option.getD_some, Bool.true_and]
  rw [Array.all_eq_true']
  intro e hm
  rw [he e hm]; simp
theorem of_ready {L : Array Bool} {i : Nat} (h : i ∈ Region.ready md ops L) : ∃ o, ops[i]? = some o ∧ L.getD i true = false ∧ ∀ e ∈ o.after, Region.binds md e = true → L.getD e.on false = true := by
  unfold Region.ready at h
  rw [List.mem_filter] at h
  obtain ⟨h1, h2⟩ := h
  have hi := List.mem_range.1 h1
  obtain ⟨o, ho⟩ : ∃ o, ops[i]? = some o := ⟨ops[i], Array.getElem?_eq_getElem hi⟩
  rw [ho] at h2
  simp only [Option.map_some, Option.getD_some, Bool.and_eq_true, Bool.not_eq_true'] at h2
  refine ⟨o, ho, h2.1, fun e he hb => ?_⟩
  have := (Array.all_eq_true'.1 h2.2) e he
  simpa [hb] using this
theorem getD_all {L : Array Bool} (h : ∀ i, i < L.size → L.getD i true = true) : left9 L = 0 := by
  unfold left9
  rw [List.count_eq_zero]
  intro hm
  obtain ⟨i, hi, he⟩ := List.getElem_of_mem hm
  have h1 := h i (by simpa using hi)
  have h2 : L.getD i true = L[i]'(by simpa using hi) := by simp [Array.getD, show i < L.size by simpa using hi]
  rw [h2] at h1
  simp at he
  rw [he] at h1
  cases h1
/-- where every operation waits for earlier ones alone, none is ready just if all have come up -/
theorem all_up {L : Array Bool} (hsz : L.size = ops.size) (hback : ∀ (i : Nat) (o : Oper), ops[i]? = some o → ∀ e ∈ o.after, e.on < i) (h : Region.ready md ops L = []) : ∀ i, i < L.size → L.getD i true = true := by
  intro i
  induction i using Nat.strongRecOn with
  | ind i ih => ?_
  intro hi
  cases hx : L.getD i true with
  | true => rfl
  | false =>
    obtain ⟨o, ho⟩ : ∃ o, ops[i]? = some o := ⟨ops[i], Array.getElem?_eq_getElem (by omega)⟩
    have := ready_of (md := md) ho hx (fun e he => by
      have hlt := hback i o ho e he
      have h1 := ih e.on hlt (by omega)
      have hb : e.on < L.size := by omega
      simp only [Array.getD, hb, dite_true] at h1 ⊢
      exact h1)
    rw [h] at this
    cases this
/-- an invariant bears a region that draws its order -/
theorem wpAny_inv (I : Array Bool → Act → World → Prop) (hsz : ∀ L a w, I L a w → L.size = ops.size)
    (hstep : ∀ L a w, I L a w → ∀ i, i ∈ Region.ready md ops L → wpOp P ops Q i (I (L.setIfInBounds i true)) a w)
    (hend : ∀ L a w, I L a w → Region.ready md ops L = [] → Q .normal a w) :
    ∀ (fuel : Nat) (L : Array Bool) (a : Act) (w : World), I L a w → left9 L ≤ fuel → wpAny P md ops Q fuel L a w
  | 0, L, a, w, h, hf => by
    have h0 : Region.ready md ops L = [] := by
      rw [List.eq_nil_iff_forall_not_mem]
      intro i hi
      obtain ⟨o, -, h1, -⟩ := of_ready hi
      rw [left9_zero (by omega) i] at h1
      cases h1
    exact ⟨h0, hend L a w h h0⟩
  | fuel + 1, L, a, w, h, hf => by
    refine ⟨fun h0 => hend L a w h h0, fun i hi => wpOp_mono (fun a' w' h' => wpAny_inv I hsz hstep hend fuel _ a' w' h' ?_) (hstep L a w h i hi)⟩
    obtain ⟨o, ho, h1, -⟩ := of_ready hi
    have hlt : i < L.size := by rw [hsz L a w h]; exact (Array.getElem?_eq_some_iff.1 ho).1
    have := left9_set hlt h1
    omega
/-- every operation waits for earlier ones alone; none is guarded: asked by looking -/
def backB (ops : Array Oper) : Bool := (List.range ops.size).all fun i => ((ops[i]?).map fun o => o.guard.isNone && o.after.all fun e => decide (e.on < i)).getD true
theorem backB_spec (h : backB ops = true) {i : Nat} {o : Oper} (ho : ops[i]? = some o) : o.guard = none ∧ ∀ e ∈ o.after, e.on < i := by
  have hi : i < ops.size := (Array.getElem?_eq_some_iff.1 ho).1
  have h1 := List.all_eq_true.1 h i (List.mem_range.2 hi)
  rw [ho] at h1
  simp only [Option.map_some, Option.getD_some, Bool.and_eq_true] at h1
  refine ⟨by simpa using h1.1, fun e he => ?_⟩
  simpa using (Array.all_eq_true'.1 h1.2) e he
/-- the frame's slots by number -/
def upd9 (vs : Nat → Value) (i : Nat) (v : Value) : Nat → Value := fun j => if j = i then v else vs j
/-- a region whose operations each make one value, and lay new blocks at most: what is told of each value holds behind, whatever the order -/
theorem wp_lits {id n : Nat} (fr : (Nat → Value) → Array Value) (PP : Nat → Value → World → Prop) (w0 : World) (vs0 : Nat → Value) (hn : ops.size = n)
    (hm : P.follows .mixedOrders = true)
    (hb9 : backB ops = true)
    (hput : ∀ (i : Nat) (o : Oper), ops[i]? = some o → ∀ (vs : Nat → Value) (v : Value), Act.put { tmps := fr vs, defers := [] } o.dst v = { tmps := fr (upd9 vs i v), defers := [] })
    (hkp : ∀ i v w w', PP i v w → Kp w w' → PP i v w')
    (hexec : ∀ (i : Nat) (o : Oper), ops[i]? = some o → ∀ (vs : Nat → Value) (w : World), (∀ e ∈ o.after, Region.binds .any e = true → PP e.on (vs e.on) w) → ∃ v w', (execOp (Act.eval { tmps := fr vs, defers := [] }) o).run P w = .ok (.value v) w' ∧ Kp w w' ∧ PP i v w')
    (hQ : ∀ (vs : Nat → Value) (w : World), Kp w0 w → (∀ i, i < n → PP i (vs i) w) → Q .normal { tmps := fr vs, defers := [] } w) :
    (Code.region id ops true).wp P Q { tmps := fr vs0, defers := [] } w0 := by
  subst hn
  have hback : ∀ (i : Nat) (o : Oper), ops[i]? = some o → ∀ e ∈ o.after, e.on < i := fun i o ho => (backB_spec hb9 ho).2
  refine wp_region_any hm ?_
  refine wpAny_inv (fun L a w => L.size = ops.size ∧ ∃ vs, a = { tmps := fr vs, defers := [] } ∧ Kp w0 w ∧ ∀ i, i < ops.size → L.getD i true = true → PP i (vs i) w)
    (fun L a w h => h.1) ?step ?fin _ _ _ _ ⟨by simp, vs0, rfl, (Kp.refl w0).dr1, fun i hi h => ?start⟩ ?fuel
  case start =>
    simp [Array.getD, hi] at h
  case fuel =>
    unfold left9
    simp
  case fin =>
    rintro L a w ⟨hs, vs, rfl, hk, hp⟩ h0
    have hall := all_up hs hback h0
    exact hQ vs w hk (fun i hi => hp i hi (hall i (by omega)))
  case step =>
    rintro L a w ⟨hs, vs, rfl, hk, hp⟩ i hi
    obtain ⟨o, ho, h1, h2⟩ := of_ready hi
    have hil : i < ops.size := (Array.getElem?_eq_some_iff.1 ho).1
    have hg := (backB_spec hb9 ho).1
    have hpt := hput i o ho
    obtain ⟨v, w', hr, hk', hpv⟩ := hexec i o ho vs w (fun e he hb => by
      have h3 := h2 e he hb
      have hlt : e.on < i := hback i o ho e he
      refine hp e.on (by omega) ?_
      have hb2 : e.on < L.size := by omega
      simp only [Array.getD, hb2, dite_true] at h3 ⊢
      exact h3)
    unfold wpOp
    rw [ho]
    simp only
    rw [if_pos (by simp [Region.wanted, hg])]
    left
    unfold Oper.wp
    rw [hr]
    show _ ∧ _
    refine ⟨by simpa using hs, upd9 vs i v, hpt vs v, Kp.nx hk hk', fun j hj hl => ?_⟩
    unfold upd9
    by_cases e : j = i
    · subst e; rw [if_pos rfl]; exact hpv
    · rw [if_neg e]
      refine hkp j _ w w' (hp j hj ?_) hk'
      have hjl : j < L.size := by omega
      have h9 : (L.setIfInBounds i true).getD j true = L.getD j true := by
        simp only [Array.getD_eq_getD_getElem?, Array.getElem?_setIfInBounds_ne (Ne.symm e)]
      rw [← h9]; exact hl
end Go.Proofs.RL
