/- A loop over an iterator whose elements are known ahead: one law for the loop, for iterators that themselves loop over iterators. -/
import Derived.RangeFuncNested
import Derived.RangeFuncBox
import Derived.RangeFuncBound
import Derived.RangeFuncCalls
import Derived.RangeFuncLeaves
import Derived.Shelf.Abstract
import Derived.Shelf.RegionOpen
import Derived.WalkKit
import Derived.OwnWalkIn
import Derived.TacticsInMore
import Derived.LoopNIn
import Derived.LoopIn
namespace Go.Proofs.RO
open Go.RowKit
open Go.Proofs
open Go
set_option linter.unusedVariables false
set_option linter.unusedSimpArgs false
variable {F : Fence} {n : Nat} {P : Program}

theorem room_none {F : Fence} (hd : F.depth = none) (k : Nat) : F.room k := fun d h => by rw [hd] at h; cases h
/-- where no depth is asked all depths are one -/
theorem roundIn_any {F : Fence} (hd : F.depth = none) {m m' : Nat} {P : Program} {l : Nat} {f : FuncId} {tmps : Array Value} {assign body : Code} {w : World} {R : Ending → World → Prop}
    (h : RoundIn F m P l f tmps assign body w R) : RoundIn F m' P l f tmps assign body w R := ⟨h.1, fun c cs _ => h.2 c cs (room_none hd _)⟩
theorem yield_any {F : Fence} (hd : F.depth = none) {m : Nat} (m' : Nat) {P : Program} {l : Nat} {args : Array Value} {W : World} {R : Ending → World → Prop} (h : YieldAt F m P l args W R) : YieldAt F m' P l args W R := by
  obtain ⟨fn, tmps, assign, body, hy, hR⟩ := h
  exact ⟨fn, tmps, assign, body, hy, roundIn_any hd hR⟩
theorem yield_in {F : Fence} {m : Nat} (l' : Nat) {P : Program} {l : Nat} {args : Array Value} {W : World} {R : Ending → World → Prop} (h : YieldAt F m P l args W R) : YieldAt (F.inRound l') m P l args W R := h
theorem keepsFrom_below {B : Nat} {W W' : World} (h : Below W.heap.size W W') : KeepsFrom B W W' := ⟨h.size, fun k o _ ho _ => (h.block k (Array.getElem?_eq_some_iff.1 ho).1).trans ho⟩
theorem grown_of_below {W W' : World} (h : Below W.heap.size W W') : W.grownBy W' none := ⟨h.os, h.tape, h.output, h.size, fun k hk _ => h.block k hk⟩
theorem own_step {β : Type} {B : Nat} {I : β → World → Prop} (h : OwnFrom B I) {s : β} {W W' : World} (hs : I s W) (hb : Below W.heap.size W W') : I s W' := h s W W' none hs (grown_of_below hb) (fun r e => by cases e)
/-- a cell's value abides -/
theorem own_cell {β : Type} {B b o : Nat} {v : Value} : OwnFrom B (fun (_ : β) W => W.cell? ⟨b, o, none⟩ = some v) :=
  fun s A A' row hs hg hr => cell_kept hs hg (fun r e => (hr r e).2)
/-- What a round must keep for the iterator: blocks that are told by p, B the heap's size where the iterator's call began. -/
structure Kb (p : Nat → Nat → Obj → Prop) (B : Nat) (W W' : World) : Prop where
  size : W.heap.size ≤ W'.heap.size
  same : ∀ k o, W.heap[k]? = some o → p B k o → W'.heap[k]? = some o
theorem Kb.refl (p : Nat → Nat → Obj → Prop) (B : Nat) (W : World) : Kb p B W W := ⟨Nat.le_refl _, fun _ _ h _ => h⟩
theorem Kb.trans {p : Nat → Nat → Obj → Prop} {B : Nat} {X Y Z : World} (h : Kb p B X Y) (k : Kb p B Y Z) : Kb p B X Z :=
  ⟨Nat.le_trans h.size k.size, fun i o hi hp => k.same i o (h.same i o hi hp) hp⟩
theorem Kb.grown {p : Nat → Nat → Obj → Prop} {B : Nat} {W W' : World} {row : Option Nat} (hg : W.grownBy W' row) (hr : ∀ r o, row = some r → W.heap[r]? = some o → ¬ p B r o) : Kb p B W W' :=
  ⟨hg.size, fun k o hk hp => (hg.block k (Array.getElem?_eq_some_iff.1 hk).1 (fun e => hr k o e.symm hk hp)).trans hk⟩
theorem Kb.below {p : Nat → Nat → Obj → Prop} {B : Nat} {W W' : World} (h : Below W.heap.size W W') : Kb p B W W' := ⟨h.size, fun k o hk _ => (h.block k (Array.getElem?_eq_some_iff.1 hk).1).trans hk⟩
theorem Kb.cell {p : Nat → Nat → Obj → Prop} {B : Nat} {W W' : World} (h : Kb p B W W') {b o : Nat} {v : Value} (hp : ∀ ob, W.heap[b]? = some ob → p B b ob) (hc : W.cell? ⟨b, o, none⟩ = some v) : W'.cell? ⟨b, o, none⟩ = some v := by
  obtain ⟨ob, ho, _⟩ := cells_of_cell hc
  have ho : W.heap[b]? = some ob := ho
  exact (World.cell?_of_block ((h.same b ob ho (hp ob ho)).trans ho.symm)).trans hc

/-- The contract of an iterator value: it tells 'f 0, f 1, ..', 'len' of them. -/
def SeqO (F : Fence) (n : Nat) (P : Program) (g : Nat) (lb : Array Value) (p : Nat → Nat → Obj → Prop) (len : Nat) (f : Nat → Array Value) (w : World) : Prop :=
  ∀ (l : Nat) (J Jx : Nat → World → Prop) (W : World), Below w.heap.size w W → OwnFrom W.heap.size J → OwnFrom W.heap.size Jx →
    (∀ k W1, J k W1 → k < len → YieldAt F (n - 1) P l (f k) W1 fun e W' => Kb p W.heap.size W1 W' ∧
      ((e = .returned (.bool true) ∧ J (k + 1) W') ∨ (e = .returned (.bool false) ∧ Jx (k + 1) W'))) →
    J 0 W →
    CallsIn F n P g (#[.func (.yield l) #[] #[]] ++ lb) W fun e W' => (∃ v, e = .returned v) ∧ (J len W' ∨ ∃ k, k ≤ len ∧ Jx k W')

/-- How a round may be left. -/
def postO (D : Nat) (p : Nat → Nat → Obj → Prop) (I : Nat → World → Prop) (Ix : Code → Nat → World → Prop) (k : Nat) (W : World) : Exit → Act → World → Prop
  | .normal, _, W' => (KeepsFrom D W W' ∧ Kb p (D + 2) W W') ∧ I k W'
  | .ret, _, W' => (KeepsFrom D W W' ∧ Kb p (D + 2) W W') ∧ Ix .ret k W'
  | .exit id, _, W' => (KeepsFrom D W W' ∧ Kb p (D + 2) W W') ∧ Ix (.exit id) k W'
  | .goto t, _, W' => (KeepsFrom D W W' ∧ Kb p (D + 2) W W') ∧ Ix (.goto t) k W'
  | .panic _, _, _ => False
  | .outgrown, _, _ => False

/-- Behind the assignment to the loop's left sides: the world is as it was; the body, from wherever I holds. -/
structure Turn (W : World) (I : World → Prop) (Wp : Act → World → Prop) (a : Act) (W₁ : World) : Prop where
  same : W = W₁
  go : ∀ X, I X → Wp a X
/-- A block that lies ahead of B abides. -/
theorem own_obj {β : Type} {B k : Nat} {o : Obj} (hk : k < B) : OwnFrom B (fun (_ : β) W => W.heap[k]? = some o) :=
  fun s A A' row hs hg hr => (hg.block k (Array.getElem?_eq_some_iff.1 hs).1 (fun e => by have := (hr k e.symm).1; omega)).trans hs
theorem own_later {β : Type} {B B' : Nat} {I : β → World → Prop} (h : OwnFrom B I) (hb : B ≤ B') : OwnFrom B' I :=
  fun s A A' row hs hg hr => h s A A' row hs hg (fun r e => ⟨Nat.le_trans hb (hr r e).1, (hr r e).2⟩)
set_option maxHeartbeats 1000000 in
/-- The loop over an iterator. -/
theorem rangeO {g : Operand} {ps : Array Tmp} {assign body : Code} {Q : Exit → Act → World → Prop} {a : Act} {w : World}
    (hro : F.round = none) (h1 : 1 ≤ n) {gf : Nat} {lb : Array Value} (hg : a.eval g = .func (.func gf) #[] lb) (hFg : F.fn gf) (eg : ∀ args w, (callFunc gf args).run P w = .ok (.enter gf args) w)
    {p : Nat → Nat → Obj → Prop} {len : Nat} {f : Nat → Array Value} {w0 : World} (hseq : SeqO F (n - 1) P gf lb p len f w0) (hb0 : Below w0.heap.size w0 w) (hp : ∀ l o, w.heap.size ≤ l → l < w.heap.size + 2 → o.isCells = false → ¬ p (w.heap.size + 2) l o) (hps : ∀ k, (f k).size = ps.size)
    (I : Nat → World → Prop) (Ix : Code → Nat → World → Prop) (hI : OwnFrom w.heap.size I) (hIx : ∀ c, OwnFrom w.heap.size (Ix c)) (h0 : I 0 w)
    (hround : ∀ (l k : Nat) (W : World), w.heap.size ≤ l → k < len →
      assign.wpIn (F.inRound l) (n - 1 - 1) P (Exit.then (Turn W (I k) (fun a₁ X => body.wpIn (F.inRound l) (n - 1 - 1) P (postO w.heap.size p I Ix (k + 1) X) a₁ X)) (fun _ _ _ => False))
        { tmps := (ps.zip (f k)).foldl (fun t (p, v) => t.setIfInBounds p v) a.tmps, defers := [] } W)
    (hdone : ∀ (D : Nat) (W : World), w.heap.size ≤ D → I len W → W.heap[D]? = some (.deferred (some [])) → Q .normal { a with defers := { target := .collected D, args := #[] } :: a.defers } W)
    (hstop : ∀ (D : Nat) (c : Code) (k : Nat) (W : World), w.heap.size ≤ D → k ≤ len → Ix c k W → W.heap[D]? = some (.deferred (some [])) → c.wpIn F n P Q { a with defers := { target := .collected D, args := #[] } :: a.defers } W) :
    (Code.rangeFunc g ps assign body).wpIn F n P Q a w := by
  obtain ⟨D, hD⟩ : ∃ D, w.heap.size = D := ⟨_, rfl⟩
  refine wpIn_rangeFunc fun fn hfn => ?_
  rw [hro]
  -- the record in each of its states
  let R : LoopState → Option Code → Obj := fun st pe => .loop { state := st, pending := pe, fn, tmps := a.tmps, params := ps, assign, body, defers := D }
  obtain ⟨V, hV⟩ : ∃ V, (w.alloc (.deferred (some []))).alloc (R .ready none) = V := ⟨_, rfl⟩
  have sV : V.heap.size = D + 2 := by rw [← hV]; simp; omega
  have rV : V.heap[D + 1]? = some (R .ready none) := by
    have := World.alloc_heap_new (w.alloc (.deferred (some []))) (R .ready none)
    rw [World.size_alloc, hD, hV] at this
    exact this
  have dV : V.heap[D]? = some (.deferred (some [])) := by
    rw [← hV, ← hD]
    exact (Below.heap_alloc _ _ _ (by simp)).trans (World.alloc_heap_new w _)
  have iV : I 0 V := by rw [← hV]; exact hI.alloc _ (hI.alloc _ h0)
  have bV : Below w0.heap.size w0 V := by
    rw [← hV]
    exact hb0.trans ((((Below.refl _ w).alloc (Nat.le_refl _) _).alloc (by simp) _).mono hb0.size)
  have eV := run_enterLoop_outer (P := P) (w := w) fn a.tmps ps assign body
  rw [hD] at eV hI hIx hdone hstop hround hp
  refine ⟨D + 1, [{ target := .collected D, args := #[] }], V, { target := .fn (.func gf) lb, args := #[.func (.yield (D + 1)) #[] #[]] }, V, gf,
    #[.func (.yield (D + 1)) #[] #[]] ++ lb, V, by rw [eV, ← hV], ?_, ?_, by simp [invoke, go_sem, eg], fun _ => h1, ?_⟩
  · simp only [resolve, hg]
    simp [go_sem]
  · intro f' hf'
    simp [Target.leads] at hf'
    subst hf'; exact hFg
  have ow1 : OwnFrom V.heap.size (fun (_ : Nat) W => W.heap[D + 1]? = some (R .ready none)) := own_obj (by omega)
  have ow2 : ∀ {β : Type}, OwnFrom V.heap.size (fun (_ : β) W => W.heap[D]? = some (.deferred (some []))) := own_obj (by omega)
  have ow3 : ∀ c, OwnFrom V.heap.size (fun (_ : Nat) W => W.heap[D + 1]? = some (R .done (some c))) := fun c => own_obj (by omega)
  have hle : D ≤ V.heap.size := by omega
  refine (hseq (D + 1) (fun k W => I k W ∧ W.heap[D + 1]? = some (R .ready none) ∧ W.heap[D]? = some (.deferred (some [])))
    (fun k W => ∃ c, Ix c k W ∧ W.heap[D + 1]? = some (R .done (some c)) ∧ W.heap[D]? = some (.deferred (some [])))
    V bV ((own_later hI hle).and (ow1.and ow2))
    (fun s A A' row hs hg' hr => by
      obtain ⟨c, x1, x2, x3⟩ := hs
      exact ⟨c, ((own_later (hIx c) hle).and ((ow3 c).and ow2)) s A A' row ⟨x1, x2, x3⟩ hg' hr⟩)
    ?round ⟨iV, rV, dV⟩).mono ?behind
  case behind =>
    rintro e W ⟨⟨v, rfl⟩, (⟨hi, hl, hd⟩ | ⟨k, hk, c, hi, hl, hd⟩)⟩
    · exact ⟨none, _, run_endLoop (P := P) hl (by simp), hdone D _ (Nat.le_refl _) (hI.putObj _ hi (by omega) hl rfl) ((World.putObj_heap_other (by omega)).trans hd)⟩
    · exact ⟨some c, _, run_endLoop (P := P) hl (by simp), hstop D c k _ (Nat.le_refl _) hk ((hIx c).putObj _ hi (by omega) hl rfl) ((World.putObj_heap_other (by omega)).trans hd)⟩
  case round =>
    rintro k W ⟨hi, hl, hd⟩ hk
    have hlt : D + 1 < W.heap.size := (Array.getElem?_eq_some_iff.1 hl).1
    refine ⟨fn, _, assign, body, run_yield (P := P) (args := f k) hl (hps k), roundIn_of_wpIn hfn (wpIn_mono (hround (D + 1) k W (by omega) hk) (fun e a₁ W₁ he => ?_))⟩
    match e, he with
    | .exit _, he => exact he.elim
    | .ret, he => exact he.elim
    | .goto _, he => exact he.elim
    | .panic _, he => exact he.elim
    | .outgrown, he => exact he.elim
    | .normal, he =>
    obtain ⟨rfl, hbody⟩ := he
    refine ⟨_, run_beginRound hl rfl, ?_⟩
    obtain ⟨X, hX⟩ : ∃ X, W.putObj (D + 1) (R .busy none) = X := ⟨_, rfl⟩
    have lX : X.heap[D + 1]? = some (R .busy none) := by rw [← hX]; exact World.putObj_heap_same hlt
    have dX : X.heap[D]? = some (.deferred (some [])) := by rw [← hX]; exact (World.putObj_heap_other (by omega)).trans hd
    have iX : I k X := by rw [← hX]; exact hI.putObj _ hi (by omega) hl rfl
    have bX : Kb p V.heap.size W X := by rw [← hX, sV]; exact Kb.grown (grownBy_putObj' W (D + 1) _) (fun r o e ho => by cases e; rw [hl] at ho; cases ho; exact hp _ _ (by omega) (by omega) rfl)
    have bd := hbody X iX
    rw [← hX] at bd
    refine wpIn_mono bd ?_
    -- the round's end, by each way
    have fin : ∀ (jump : Option Code) (Z : World), KeepsFrom D X Z ∧ Kb p (D + 2) X Z →
        (Instr.endRound (D + 1) jump).run P Z = .ok (.bool jump.isNone) (Z.putObj (D + 1) (R (if jump.isNone then .ready else .done) jump)) ∧
        (Z.putObj (D + 1) (R (if jump.isNone then .ready else .done) jump)).heap[D + 1]? = some (R (if jump.isNone then .ready else .done) jump) ∧
        (Z.putObj (D + 1) (R (if jump.isNone then .ready else .done) jump)).heap[D]? = some (.deferred (some [])) ∧
        Kb p V.heap.size W (Z.putObj (D + 1) (R (if jump.isNone then .ready else .done) jump)) ∧ Z.heap[D + 1]? = some (R .busy none) := fun jump Z hz => by
      have lZ := hz.1.same _ _ (by omega) lX rfl
      have dZ := hz.1.same _ _ (Nat.le_refl _) dX rfl
      have kZ : Kb p V.heap.size Z (Z.putObj (D + 1) (R (if jump.isNone then .ready else .done) jump)) := by rw [sV]; exact Kb.grown (grownBy_putObj' Z (D + 1) _) (fun r o e ho => by cases e; rw [lZ] at ho; cases ho; exact hp _ _ (by omega) (by omega) rfl)
      exact ⟨run_endRound (P := P) jump lZ, World.putObj_heap_same (Array.getElem?_eq_some_iff.1 lZ).1, (World.putObj_heap_other (by omega)).trans dZ, (bX.trans (by rw [sV]; exact hz.2)).trans kZ, lZ⟩
    intro e b Z hp
    match e, hp with
    | .normal, hp =>
      obtain ⟨hz, hi'⟩ := hp
      rw [hX] at hz
      obtain ⟨r1, r2, r3, r4, r5⟩ := fin none Z hz
      exact ⟨_, _, r1, r4, .inl ⟨rfl, hI.putObj _ hi' (by omega) r5 rfl, r2, r3⟩⟩
    | .ret, hp =>
      obtain ⟨hz, hi'⟩ := hp
      rw [hX] at hz
      obtain ⟨r1, r2, r3, r4, r5⟩ := fin (some .ret) Z hz
      exact ⟨_, _, r1, r4, .inr ⟨rfl, .ret, (hIx _).putObj _ hi' (by omega) r5 rfl, r2, r3⟩⟩
    | .exit id, hp =>
      obtain ⟨hz, hi'⟩ := hp
      rw [hX] at hz
      obtain ⟨r1, r2, r3, r4, r5⟩ := fin (some (.exit id)) Z hz
      exact ⟨_, _, r1, r4, .inr ⟨rfl, .exit id, (hIx _).putObj _ hi' (by omega) r5 rfl, r2, r3⟩⟩
    | .goto t, hp =>
      obtain ⟨hz, hi'⟩ := hp
      rw [hX] at hz
      obtain ⟨r1, r2, r3, r4, r5⟩ := fin (some (.goto t)) Z hz
      exact ⟨_, _, r1, r4, .inr ⟨rfl, .goto t, (hIx _).putObj _ hi' (by omega) r5 rfl, r2, r3⟩⟩
    | .panic _, hp => exact hp.elim
    | .outgrown, hp => exact hp.elim
end Go.Proofs.RO
