/- Numbers in a slice of the call's own: what is appended, stored, cut off. No program in sight. -/
import Derived.Test.YticickjnlkbkoaaAliB
import Derived.ArgAppend
import Derived.Deep.AppendLies
namespace Go.Proofs.AL
open Go.RowKit
open Go.Proofs
open Go.Proofs.NP
open Go.Proofs.SL
open Go
set_option linter.unusedVariables false
set_option linter.unusedSimpArgs false
def encI (x : Int) : Value := .int .i64 x
/-- a slice of numbers that the call owns -/
structure Oi (e : TypeId) (B : Nat) (w : World) (a : Option Addr) (cap : Nat) (xs : List Int) : Prop where
  row : w.ownsRow B e 1 (.slice a xs.length cap) xs.length (xs.map encI)
variable {e : TypeId} {B : Nat} {w w' : World} {a : Option Addr} {cap : Nat} {xs : List Int}
theorem Oi.nil (w : World) (e : TypeId) (B : Nat) : Oi e B w none 0 [] := ⟨World.ownsRow_nil w _ _ _⟩
theorem Oi.cases (h : Oi e B w a cap xs) :
    (a = none ∧ cap = 0 ∧ xs = []) ∨ ∃ g, a = some ⟨g, 0, none⟩ ∧ B ≤ g ∧ g < w.heap.size ∧ xs.length ≤ cap ∧ cap ≤ maxLen := by
  rcases h.row.2 with ⟨hv, hn⟩ | ⟨g, cap', cur, hv, hb, hg, hnc, hcm, hcs, ht⟩
  · simp only [Value.slice.injEq] at hv
    exact .inl ⟨hv.1, hv.2.2, List.eq_nil_of_length_eq_zero hn⟩
  · simp only [Value.slice.injEq] at hv
    obtain ⟨rfl, _, rfl⟩ := hv
    exact .inr ⟨g, rfl, hb, (Array.getElem?_eq_some_iff.1 hg).1, hnc, hcm⟩
theorem Oi.kept {row : Option Nat} (h : Oi e B w a cap xs) (hg : w.grownBy w' row) (hne : ∀ g, a = some ⟨g, 0, none⟩ → some g ≠ row) : Oi e B w' a cap xs := by
  refine ⟨h.row.1, ?_⟩
  rcases h.row.2 with h' | ⟨g, cap', cur, hv, hb, hgg, r⟩
  · exact .inl h'
  · have hv' := hv
    simp only [Value.slice.injEq] at hv'
    obtain ⟨rfl, _, rfl⟩ := hv'
    exact .inr ⟨g, cap, cur, hv, hb, (hg.block g (Array.getElem?_eq_some_iff.1 hgg).1 (hne g rfl)).trans hgg, r⟩
theorem Oi.nx (h : Oi e B w a cap xs) (hb : Kp w w') : Oi e B w' a cap xs := by
  refine ⟨h.row.1, ?_⟩
  rcases h.row.2 with h' | ⟨g, cap', cur, hv, hbg, hgg, r⟩
  · exact .inl h'
  · exact .inr ⟨g, cap', cur, hv, hbg, (hb.below.block g (Array.getElem?_eq_some_iff.1 hgg).1).trans hgg, r⟩
theorem Oi.take (h : Oi e B w a cap xs) (n : Nat) (hn : n ≤ xs.length) : Oi e B w a cap (xs.take n) := by
  refine ⟨by simp, ?_⟩
  have hl : (xs.take n).length = n := by simp; omega
  rw [hl]
  rcases h.row.2 with ⟨hv, h0⟩ | ⟨g, cap', cur, hv, hbg, hgg, hnc, hcm, hcs, ht⟩
  · simp only [Value.slice.injEq] at hv
    obtain ⟨rfl, _, rfl⟩ := hv
    obtain rfl : n = 0 := by omega
    exact .inl ⟨rfl, rfl⟩
  · simp only [Value.slice.injEq] at hv
    obtain ⟨rfl, _, rfl⟩ := hv
    refine .inr ⟨g, cap, cur, rfl, hbg, hgg, by omega, hcm, hcs, ?_⟩
    rw [List.map_take, ← ht]
    simp [List.take_take, Nat.min_eq_left hn]
theorem Oi.store {g : Nat} (h : Oi e B w (some ⟨g, 0, none⟩) cap xs) (j : Nat) (x : Int) :
    Oi e B (w.setCell ⟨g, j, none⟩ (.int .i64 x)) (some ⟨g, 0, none⟩) cap (xs.set j x) ∧ w.grownBy (w.setCell ⟨g, j, none⟩ (.int .i64 x)) (some g) := by
  have hr := h.row.stored j (encI x)
  refine ⟨⟨?_⟩, hr.2⟩
  have := hr.1
  rw [← List.map_set] at this
  rw [List.length_set]
  exact this
theorem Oi.cell {g : Nat} (h : Oi e B w (some ⟨g, 0, none⟩) cap xs) (j : Nat) (hj : j < xs.length) : w.cell? ⟨g, j, none⟩ = some (.int .i64 xs[j]) := by
  rw [h.row.cellAt j (by omega)]
  simp [hj, encI]
theorem Oi.free {g : Nat} (h : Oi e B w (some ⟨g, 0, none⟩) cap xs) (j : Nat) : w.frozen? ⟨g, j, none⟩ = false := h.row.frozenAt j
theorem Oi.ge {g : Nat} (h : Oi e B w (some ⟨g, 0, none⟩) cap xs) : B ≤ g ∧ g < w.heap.size := by
  rcases h.cases with ⟨h', _⟩ | ⟨g', h', h1, h2, _⟩
  · simp at h'
  · simp only [Option.some.injEq, Addr.mk.injEq, and_true] at h'
    subst h'; exact ⟨h1, h2⟩
theorem Oi.le_cap (h : Oi e B w a cap xs) : xs.length ≤ cap := by
  rcases h.cases with ⟨_, _, rfl⟩ | ⟨g, _, _, _, h, _⟩
  · simp
  · exact h
theorem Oi.some_of (h : Oi e B w a cap xs) (hx : xs ≠ []) : ∃ g, a = some ⟨g, 0, none⟩ ∧ B ≤ g ∧ g < w.heap.size := by
  rcases h.cases with ⟨_, _, rfl⟩ | ⟨g, h1, h2, h3, _⟩
  · exact absurd rfl hx
  · exact ⟨g, h1, h2, h3⟩
theorem Oi.ri (h : Oi e B w a cap xs) : Ri w a xs := by
  rcases h.cases with ⟨_, _, rfl⟩ | ⟨g, rfl, h1, h2, _⟩
  · exact ⟨.inl rfl⟩
  · exact ⟨.inr ⟨g, 0, rfl, h2, fun i hi => by rw [Nat.zero_add]; exact h.cell i hi⟩⟩
/-- its block -/
def blkO (a : Option Addr) : Option Nat := a.map (·.block)
theorem blkO_own (a : Option Addr) (n c : Nat) : (Value.slice a n c).ownBlock = blkO a := by cases a <;> rfl
theorem Oi.blk_ge (h : Oi e B w a cap xs) : ∀ k, blkO a = some k → B ≤ k ∧ k < w.heap.size := fun k hk => by
  rcases h.cases with ⟨rfl, _⟩ | ⟨g, rfl, h1, h2, _⟩
  · cases hk
  · have : g = k := by simpa [blkO] using hk
    omega
/-- one number more: it lies where it lay, or in a new block -/
theorem run_append1 {P : Program} (t ty : TypeId) (i : TypeInfo) (ht : P.underlying t = some (.slice e)) (hi : P.info? e = some i) (hz : i.zero = some (.int .i64 0)) (hsize : i.size = 1) (hby : i.bytes = 8)
    (h : Oi e B w a cap xs) (ad : Addr) (c : Nat) (x : Int) (hc : w.cell? ad = some (.int .i64 x)) (hl : xs.length ≤ 1000000) (hB : B ≤ w.heap.size) :
    ∃ g cap' w', (Builtin.append_ #[t, t] ty #[.slice a xs.length cap, .slice (some ad) 1 c]).run P w = .ok (.slice (some ⟨g, 0, none⟩) (xs.length + 1) cap') w' ∧ Oi e B w' (some ⟨g, 0, none⟩) cap' (xs ++ [x]) ∧ w.grownBy w' (blkO a) ∧ (blkO a = some g ∨ g = w.heap.size) := by
  have hnews : ∀ j u, [encI x][j]? = some u → w.cell? (ad.add j) = some u := fun j u hj => by
    match j, hj with
    | 0, hj => simp at hj; subst hj; rw [show ad.add 0 = ad by cases ad; unfold Addr.add; split <;> simp_all]; exact hc
  obtain ⟨g, cap', w', hr, h2, h3, h4, h5⟩ := run_append_lies (P := P) w t ty B e i (.int .i64 0) 1 8 ht hi hz hsize hby rfl (by decide) (.slice a xs.length cap) xs.length (xs.map encI) h.row ad 1 c [encI x] rfl hnews (by simp [encI, Value.oneCell']) (by decide) (by unfold maxLen; omega) (by omega) hB w.heap.size rfl
  rw [blkO_own] at h3 h4
  exact ⟨g, cap', w', hr, ⟨by rw [List.length_append, List.map_append]; exact h2⟩, h3, h4⟩
/-- at an operation -/
theorem wp_append_int {P : Program} {o : Oper} {A : Act} {K : Act → World → Prop} {Q : Exit → Act → World → Prop} (s x : Operand) (t : TypeId)
    (ho : o.op = .call { callee := .builtin .append, args := #[s, x], argTypes := #[t, t] })
    (e : TypeId) (i : TypeInfo) (ht : P.underlying t = some (.slice e)) (hi : P.info? e = some i) (hz : i.zero = some (.int .i64 0)) (hsize : i.size = 1) (hby : i.bytes = 8)
    (a : Option Addr) (n cap : Nat) (xs : List Int) (hs : A.eval s = .slice a n cap) (h : Oi e B w a cap xs) (hn : n = xs.length) (ad : Addr) (c : Nat) (z : Int) (hx : A.eval x = .slice (some ad) 1 c) (hc : w.cell? ad = some (.int .i64 z))
    (hl : xs.length ≤ 1000000) (hB : B ≤ w.heap.size)
    (hK : ∀ g cap' w', Hid (Oi e B w' (some ⟨g, 0, none⟩) cap' (xs ++ [z]) ∧ w.grownBy w' (blkO a) ∧ (blkO a = some g ∨ g = w.heap.size)) → K (A.put o.dst (.slice (some ⟨g, 0, none⟩) (n + 1) cap')) w') : o.wp P A w K Q := by
  subst hn
  obtain ⟨g, cap', w', hr, h1, h2, h3⟩ := run_append1 (P := P) t o.type i ht hi hz hsize hby h ad c z hc hl hB
  unfold Oper.wp execOp
  simp only [ho, resolve, invoke, builtin, Sem.run_bind, Sem.run_pure, Result.andThen_ok, List.map_toArray, List.map_cons, List.map_nil, hs, hx, hr]
  exact hK g cap' w' (Lib.hid ⟨h1, h2, h3⟩)
/-- as a step of a walk -/
theorem wpList_append_int {P : Program} {ops : Array Oper} {rest : List Oper} {o : Oper} {A : Act} {Q : Exit → Act → World → Prop} (hgd : o.guard = none) (s x : Operand) (t : TypeId)
    (ho : o.op = .call { callee := .builtin .append, args := #[s, x], argTypes := #[t, t] })
    (e : TypeId) (i : TypeInfo) (ht : P.underlying t = some (.slice e)) (hi : P.info? e = some i) (hz : i.zero = some (.int .i64 0)) (hsize : i.size = 1) (hby : i.bytes = 8)
    (a : Option Addr) (n cap : Nat) (xs : List Int) (hs : A.eval s = .slice a n cap) (h : Oi e B w a cap xs) (hn : n = xs.length) (ad : Addr) (c : Nat) (z : Int) (hx : A.eval x = .slice (some ad) 1 c) (hc : w.cell? ad = some (.int .i64 z))
    (hl : xs.length ≤ 1000000) (hB : B ≤ w.heap.size)
    (hK : ∀ g cap' w', Hid (Oi e B w' (some ⟨g, 0, none⟩) cap' (xs ++ [z]) ∧ w.grownBy w' (blkO a) ∧ (blkO a = some g ∨ g = w.heap.size)) → wpList P ops Q rest (A.put o.dst (.slice (some ⟨g, 0, none⟩) (n + 1) cap')) w') : wpList P ops Q (o :: rest) A w :=
  wpList_plain hgd fun _ hK' => wp_append_int s x t ho e i ht hi hz hsize hby a n cap xs hs h hn ad c z hx hc hl hB fun g c' w' h' => hK' _ _ (hK g c' w' h')
/-- as a step of a region that draws its order -/
theorem step_append_int {P : Program} {ops : Array Oper} {o : Oper} {A : Act} {K : Act → World → Prop} {Q : Exit → Act → World → Prop} {E : Prop} (hgd : o.guard = none) (s x : Operand) (t : TypeId)
    (ho : o.op = .call { callee := .builtin .append, args := #[s, x], argTypes := #[t, t] })
    (e : TypeId) (i : TypeInfo) (ht : P.underlying t = some (.slice e)) (hi : P.info? e = some i) (hz : i.zero = some (.int .i64 0)) (hsize : i.size = 1) (hby : i.bytes = 8)
    (a : Option Addr) (n cap : Nat) (xs : List Int) (hs : A.eval s = .slice a n cap) (h : Oi e B w a cap xs) (hn : n = xs.length) (ad : Addr) (c : Nat) (z : Int) (hx : A.eval x = .slice (some ad) 1 c) (hc : w.cell? ad = some (.int .i64 z))
    (hl : xs.length ≤ 1000000) (hB : B ≤ w.heap.size)
    (hK : ∀ g cap' w', Hid (Oi e B w' (some ⟨g, 0, none⟩) cap' (xs ++ [z]) ∧ w.grownBy w' (blkO a) ∧ (blkO a = some g ∨ g = w.heap.size)) → K (A.put o.dst (.slice (some ⟨g, 0, none⟩) (n + 1) cap')) w') :
    if Region.wanted o (yielded ops A.tmps) = true then Oper.wp P o A w K Q else E := by
  rw [if_pos (by simp [Region.wanted, hgd])]
  exact wp_append_int s x t ho e i ht hi hz hsize hby a n cap xs hs h hn ad c z hx hc hl hB hK
end Go.Proofs.AL
