/- Alias tables: New, of weights that are some. -/
import Derived.Test.YticickjnlkbkoaaGreatAliB
import Derived.ArgAppend
import Derived.Laws.MakeOwn
import Derived.Deep.RegionHeld3
namespace Go.Proofs.AL
open Go.RowKit
open Go.Proofs
open Go.Proofs.NP
open Go.Proofs.SL
open Go.Proofs.RA
open Go
set_option linter.unusedVariables false
set_option linter.unusedSimpArgs false
set_option maxRecDepth 20000
/-- it goes on, and so -/
def only (R : Act → World → Prop) : Exit → Act → World → Prop
  | .normal, a, w => R a w
  | _, _, _ => False
/-- the ways through a statement that lays three blocks meet again -/
theorem wp_tab {P : Program} {s : Code} {Q : Exit → Act → World → Prop} {a : Act} {w : World} (Fa : World → Nat → Nat → Nat → Prop) (A : Nat → Nat → Nat → Act)
    (h : ∀ K : Act → World → Prop, Hid (∀ w' g gc go, Fa w' g gc go → K (A g gc go) w') → s.wp P (only K) a w) (rest : ∀ w' g gc go, Fa w' g gc go → Q .normal (A g gc go) w') : s.wp P Q a w :=
  wp_mono (h (fun a' w' => ∃ g gc go, Fa w' g gc go ∧ a' = A g gc go) (Lib.hid fun w' g gc go h1 => ⟨g, gc, go, h1, rfl⟩)) fun e a' w' he => by
    cases e with
    | normal =>
      obtain ⟨g, gc, go, h1, rfl⟩ := he
      exact rest _ _ _ _ h1
    | _ => exact he.elim
theorem Bk.other9 {W : World} {b g : Nat} {cs : Array Value} {T : TypeId} (h : Bk W b cs T) (hne : b ≠ g) (i : Nat) (v : Value) : Bk (W.setCell ⟨g, i, none⟩ v) b cs T := (Below.heap_setCell _ _ _ b hne).trans h
theorem made_row (n : Nat) : madeCells (Value.int .i64 0).cells (n * 1) = row n (fun _ => 0) := by
  apply Array.ext
  · rw [size_madeCells, row_size, Nat.mul_one]
  · intro i h1 h2
    have h3 : i < n := by rw [row_size] at h2; exact h2
    have e := row_get n (fun _ => 0) i h3
    rw [Array.getElem?_eq_getElem h2, Option.some.injEq] at e
    rw [e]
    have hc : (Value.int .i64 0).cells = #[Value.int .i64 0] := rfl
    simp [madeCells, hc, Nat.mod_one]
theorem Tryz.info2 : (Tryz.prog.info? 2).map (fun i => (i.zero, i.size, i.bytes)) = some (some (.int .i64 0), 1, 8) := by kernel_rfl
theorem Tryz.info3 : (Tryz.prog.info? 3).map (fun i => (i.zero, i.size, i.bytes)) = some (some (.int .i64 0), 1, 8) := by kernel_rfl
theorem mk64 (n : Nat) (hn : n ≤ 1000) (W : World) : (Instr.makeSlice 24 (.int .i64 (n : Int)) (.int .i64 (n : Int))).run Tryz.prog W = .ok (.slice (some ⟨W.heap.size, 0, none⟩) n n) (W.alloc (.cells (row n (fun _ => 0)) 2)) := by
  obtain ⟨i0, hi, hz0, hz1, hz2⟩ := info_parts Tryz.info2
  have h := run_makeSlice (P := Tryz.prog) W 24 2 i0 (.int .i64 0) Tryz.underlying24 hi hz0 .i64 .i64 (n : Int) (n : Int) (by omega) (by omega) (by rw [hz1]; simp; omega) (by rw [hz2]; omega) (by omega)
  rw [h, hz1, Int.toNat_natCast, made_row]
theorem mkInt (n : Nat) (hn : n ≤ 1000) (W : World) : (Instr.makeSlice 30 (.int .i64 (n : Int)) (.int .i64 (n : Int))).run Tryz.prog W = .ok (.slice (some ⟨W.heap.size, 0, none⟩) n n) (W.alloc (.cells (row n (fun _ => 0)) 3)) := by
  obtain ⟨i0, hi, hz0, hz1, hz2⟩ := info_parts Tryz.info3
  have h := run_makeSlice (P := Tryz.prog) W 30 3 i0 (.int .i64 0) Tryz.underlying30 hi hz0 .i64 .i64 (n : Int) (n : Int) (by omega) (by omega) (by rw [hz1]; simp; omega) (by rw [hz2]; omega) (by omega)
  rw [h, hz1, Int.toNat_natCast, made_row]
def lenV : Value → Nat
  | .slice _ n _ => n
  | _ => 0
/-- the three blocks lie apart, and are new -/
def Ap (B g gc go : Nat) : Prop := B ≤ g ∧ B ≤ gc ∧ B ≤ go ∧ g ≠ gc ∧ g ≠ go ∧ gc ≠ go
theorem tb_new1 (w : World) (n : Nat) :
    Tb (((w.alloc (.cells (row n (fun _ => 0)) 2)).alloc (.cells (row n (fun _ => 0)) 3)).alloc (.cells #[.int .i64 0, .slice (some ⟨w.heap.size, 0, none⟩) n n, .slice (some ⟨w.heap.size + 1, 0, none⟩) n n] 38)).drew (w.heap.size + 1 + 1) w.heap.size (w.heap.size + 1) n 0 (fun _ => 0) (fun _ => 0) := by
  have h1 := Bk.new w (row n (fun _ => 0)) 2
  have h2 := Bk.new (w.alloc (.cells (row n (fun _ => 0)) 2)) (row n (fun _ => 0)) 3
  have h3 := Bk.new ((w.alloc (.cells (row n (fun _ => 0)) 2)).alloc (.cells (row n (fun _ => 0)) 3)) #[.int .i64 0, .slice (some ⟨w.heap.size, 0, none⟩) n n, .slice (some ⟨w.heap.size + 1, 0, none⟩) n n] 38
  simp only [World.size_alloc] at h2 h3
  exact ⟨h3.nx (Kp.refl _).dr1, h1.nx (((Kp.refl _).al _).al _).dr1, h2.nx ((Kp.refl _).al _).dr1⟩
theorem tb_new2 (w : World) (n : Nat) :
    Tb (((w.alloc (.cells (row n (fun _ => 0)) 3)).alloc (.cells (row n (fun _ => 0)) 2)).alloc (.cells #[.int .i64 0, .slice (some ⟨w.heap.size + 1, 0, none⟩) n n, .slice (some ⟨w.heap.size, 0, none⟩) n n] 38)).drew (w.heap.size + 1 + 1) (w.heap.size + 1) w.heap.size n 0 (fun _ => 0) (fun _ => 0) := by
  have h1 := Bk.new w (row n (fun _ => 0)) 3
  have h2 := Bk.new (w.alloc (.cells (row n (fun _ => 0)) 3)) (row n (fun _ => 0)) 2
  have h3 := Bk.new ((w.alloc (.cells (row n (fun _ => 0)) 3)).alloc (.cells (row n (fun _ => 0)) 2)) #[.int .i64 0, .slice (some ⟨w.heap.size + 1, 0, none⟩) n n, .slice (some ⟨w.heap.size, 0, none⟩) n n] 38
  simp only [World.size_alloc] at h2 h3
  exact ⟨h3.nx (Kp.refl _).dr1, h2.nx ((Kp.refl _).al _).dr1, h1.nx (((Kp.refl _).al _).al _).dr1⟩
theorem Tb.setsum {W : World} {g gc go n : Nat} {s : Int} {cu ot : Nat → Int} (h : Tb W g gc go n s cu ot) (h1 : g ≠ gc) (h2 : g ≠ go) (v : Int) : Tb (W.setCell ⟨g, 0, none⟩ (.int .i64 v)) g gc go n v cu ot :=
  ⟨h.tb.set 0 _, Bk.other9 h.cb h1.symm _ _, Bk.other9 h.ob h2.symm _ _⟩
/-- a number behind a slice that has room for it -/
theorem wpList_append1 {P : Program} (w : World) {ops : Array Oper} {rest : List Oper} {o : Oper} {a : Act} {Q : Exit → Act → World → Prop}
    (hg : o.guard = none) (s x : Operand) (t : TypeId) (hop : o.op = Op.call { callee := Callee.builtin Builtin.append, args := #[s, x], argTypes := #[t, t] })
    (e : TypeId) (i : TypeInfo) (h1 : P.underlying t = some (.slice e)) (h2 : P.info? e = some i) (h4 : i.size = 1)
    (b off n cap : Nat) (hs : a.eval s = .slice (some ⟨b, off, none⟩) n cap) (ad : Addr) (c : Nat) (z : Int) (hx : a.eval x = .slice (some ad) 1 c) (hc : w.cell? ad = some (.int .i64 z))
    (hroom : n + 1 ≤ cap) (hsp : (w.cell? ⟨b, off + n, none⟩).isSome = true) (hf : w.frozen? ⟨b, off + n, none⟩ = false)
    (hK : wpList P ops Q rest (a.put o.dst (.slice (some ⟨b, off, none⟩) (n + 1) cap)) (w.setCell ⟨b, off + n, none⟩ (.int .i64 z))) : wpList P ops Q (o :: rest) a w := by
  refine wpList_plain hg fun K hK' => ?_
  have hrun := run_append_room_cells (P := P) w t o.type e i h1 h2 b off n cap ad 1 c [.int .i64 z] (by rw [h4]; rfl) (fun j u hj => by
    match j, hj with
    | 0, hj => simp at hj; subst hj; rw [← hc]; congr 1) (by simp [Value.oneCell']) hroom (fun j hj => by
    have : j = 0 := by simp at hj; omega
    subst this; rw [h4, Nat.mul_one]; exact hsp) (fun j hj => by
    have : j = 0 := by simp at hj; omega
    subst this; rw [h4, Nat.mul_one]; exact hf)
  rw [h4, Nat.mul_one] at hrun
  have e1 : w.setCells b (off + n) [.int .i64 z] = w.setCell ⟨b, off + n, none⟩ (.int .i64 z) := rfl
  rw [e1] at hrun
  unfold Oper.wp
  simp [execOp, hop, resolve, invoke, builtin, hs, hx, hrun, Result.andThen]
  exact hK' _ _ hK
/-- the weights as a function -/
def wf (ws : List Int) (x : Nat) : Int := (ws[x]?).getD 0
theorem wf_get (ws : List Int) (i : Nat) (h : i < ws.length) : wf ws i = ws[i] := by simp [wf, h]
theorem why0 {ws : List Int} (h : 0 = whyW ws) : ws.all okW = true ∧ ws.any (fun x => decide (0 < x)) = true := by
  unfold whyW at h
  by_cases h0 : ws = []
  · rw [if_pos h0] at h; cases h
  rw [if_neg h0] at h
  by_cases h1 : 64 < ws.length
  · rw [if_pos h1] at h; cases h
  rw [if_neg h1] at h
  cases h2 : ws.all okW
  · rw [h2, if_pos rfl] at h; cases h
  · rw [h2, if_neg (by decide)] at h
    cases h3 : ws.any (fun x => decide (0 < x))
    · rw [h3, if_pos rfl] at h; cases h
    · exact ⟨rfl, rfl⟩
theorem wf_ok {ws : List Int} (h : ws.all okW = true) (i : Nat) : 0 ≤ wf ws i ∧ wf ws i ≤ 1048576 := by
  by_cases hi : i < ws.length
  · have := List.all_eq_true.1 h ws[i] (List.getElem_mem hi)
    rw [wf_get ws i hi]
    simpa [okW] using this
  · simp [wf, hi]
theorem up_bd {ws : List Int} (h : ws.all okW = true) (i : Nat) (hi : i ≤ 64) : 0 ≤ up (wf ws) i ∧ up (wf ws) i ≤ 67108864 := by
  have h1 := up_nonneg (w := wf ws) (fun j => (wf_ok h j).1) i
  have h2 := up_le (w := wf ws) (m := 1048576) (fun j => (wf_ok h j).2) i
  omega
/-- all that the making has in memory -/
structure Mk (W : World) (g gc go gr gh n : Nat) (s : Int) (t : St) : Prop where
  tab : Tb W g gc go n s t.cu t.ot
  hb : Bk W gh (row n t.ht) 2
  room : ∃ rf, Bk W gr (row (2 * n) rf) 3 ∧ (∀ j (h : j < t.lo.length), rf j = ((t.lo[j] : Nat) : Int)) ∧ (∀ j (h : j < t.hi.length), rf (n + j) = ((t.hi[j] : Nat) : Int))
structure Ap5 (B g gc go gr gh : Nat) : Prop where
  ap : Ap B g gc go
  h1 : g < gr ∧ gc < gr ∧ go < gr ∧ gr < gh
theorem Mk.nx {W W' : World} {g gc go gr gh n : Nat} {s : Int} {t : St} (h : Mk W g gc go gr gh n s t) (hk : Kp W W') : Mk W' g gc go gr gh n s t := by
  obtain ⟨rf, h1, h2, h3⟩ := h.room
  exact ⟨h.tab.nx hk, h.hb.nx hk, rf, h1.nx hk, h2, h3⟩
theorem Ap5.ne {B g gc go gr gh : Nat} (h : Ap5 B g gc go gr gh) : (g ≠ gc ∧ g ≠ go ∧ gc ≠ go ∧ g ≠ gr ∧ gc ≠ gr ∧ go ≠ gr ∧ g ≠ gh ∧ gc ≠ gh ∧ go ≠ gh ∧ gr ≠ gh) ∧ (B ≤ g ∧ B ≤ gc ∧ B ≤ go ∧ B ≤ gr ∧ B ≤ gh) := by
  have h1 := h.ap
  have h2 := h.h1
  unfold Ap at h1
  omega
theorem Mk.lay {W : World} {B g gc go gr gh n : Nat} {s : Int} {t : St} (h : Mk W g gc go gr gh n s t) (hA : Ap5 B g gc go gr gh) (i : Nat) (hi : i < n) (y : Int) :
    Mk (((W.setCell ⟨gh, i, none⟩ (.int .i64 y)).setCell ⟨gc, i, none⟩ (.int .i64 s)).setCell ⟨go, i, none⟩ (.int .i64 (i : Int))) g gc go gr gh n s { t with ht := put t.ht i y, cu := put t.cu i s, ot := put t.ot i i } := by
  have hn := hA.ne.1
  obtain ⟨rf, h1, h2, h3⟩ := h.room
  have e1 := h.hb.set i (.int .i64 y)
  have e2 := (Bk.other9 h.tab.cb hn.2.2.2.2.2.2.2.1 i (.int .i64 y)).set i (.int .i64 s)
  have e3 := (Bk.other9 (Bk.other9 h.tab.ob hn.2.2.2.2.2.2.2.2.1 i (.int .i64 y)) hn.2.2.1.symm i (.int .i64 s)).set i (.int .i64 (i : Int))
  rw [row_set _ _ _ _ hi] at e1 e2 e3
  exact ⟨⟨Bk.other9 (Bk.other9 (Bk.other9 h.tab.tb hn.2.2.2.2.2.2.1 _ _) hn.1 _ _) hn.2.1 _ _, Bk.other9 e2 hn.2.2.1 _ _, e3⟩, Bk.other9 (Bk.other9 e1 hn.2.2.2.2.2.2.2.1.symm _ _) hn.2.2.2.2.2.2.2.2.1.symm _ _,
    rf, Bk.other9 (Bk.other9 (Bk.other9 h1 hn.2.2.2.2.2.2.2.2.2 _ _) hn.2.2.2.2.1.symm _ _) hn.2.2.2.2.2.1.symm _ _, h2, h3⟩
theorem Mk.push_lo {W : World} {B g gc go gr gh n : Nat} {s : Int} {t : St} (h : Mk W g gc go gr gh n s t) (hA : Ap5 B g gc go gr gh) (p : Nat) (hp : p = t.lo.length) (hpn : p < n) (x : Nat) :
    Mk (W.setCell ⟨gr, p, none⟩ (.int .i64 (x : Int))) g gc go gr gh n s { t with lo := t.lo ++ [x] } := by
  have hn := hA.ne.1
  obtain ⟨rf, h1, h2, h3⟩ := h.room
  have e1 := h1.set p (.int .i64 (x : Int))
  rw [row_set _ _ _ _ (by omega)] at e1
  refine ⟨⟨Bk.other9 h.tab.tb hn.2.2.2.1 _ _, Bk.other9 h.tab.cb hn.2.2.2.2.1 _ _, Bk.other9 h.tab.ob hn.2.2.2.2.2.1 _ _⟩, Bk.other9 h.hb hn.2.2.2.2.2.2.2.2.2.symm _ _, _, e1, fun j hj => ?_, fun j hj => ?_⟩
  · by_cases e : j = p
    · subst e; subst hp; simp
    · have hj2 : j < t.lo.length := by simp at hj; omega
      simp only [if_neg e]
      rw [h2 j hj2, List.getElem_append_left hj2]
  · have e : ¬ n + j = p := by omega
    simp only [if_neg e]
    exact h3 j hj
theorem Mk.push_hi {W : World} {B g gc go gr gh n : Nat} {s : Int} {t : St} (h : Mk W g gc go gr gh n s t) (hA : Ap5 B g gc go gr gh) (q : Nat) (hq : q = t.hi.length) (hqn : q < n) (hl : t.lo.length ≤ n) (x : Nat) :
    Mk (W.setCell ⟨gr, n + q, none⟩ (.int .i64 (x : Int))) g gc go gr gh n s { t with hi := t.hi ++ [x] } := by
  have hn := hA.ne.1
  obtain ⟨rf, h1, h2, h3⟩ := h.room
  have e1 := h1.set (n + q) (.int .i64 (x : Int))
  rw [row_set _ _ _ _ (by omega)] at e1
  refine ⟨⟨Bk.other9 h.tab.tb hn.2.2.2.1 _ _, Bk.other9 h.tab.cb hn.2.2.2.2.1 _ _, Bk.other9 h.tab.ob hn.2.2.2.2.2.1 _ _⟩, Bk.other9 h.hb hn.2.2.2.2.2.2.2.2.2.symm _ _, _, e1, fun j hj => ?_, fun j hj => ?_⟩
  · have hj' : j < t.lo.length := hj
    have e : ¬ j = n + q := by omega
    simp only [if_neg e]
    exact h2 j hj
  · by_cases e : j = q
    · subst e; subst hq; simp
    · have hj2 : j < t.hi.length := by simp at hj; omega
      have e' : ¬ n + j = n + q := by omega
      simp only [if_neg e']
      rw [h3 j hj2, List.getElem_append_left hj2]
theorem Mk.lo_get {W : World} {g gc go gr gh n : Nat} {s : Int} {t : St} (h : Mk W g gc go gr gh n s t) (j : Nat) (hj : j < t.lo.length) (hn : j < 2 * n) : W.cell? ⟨gr, j, none⟩ = some (.int .i64 ((t.lo[j] : Nat) : Int)) := by
  obtain ⟨rf, h1, h2, h3⟩ := h.room
  rw [h1.c j, row_get _ _ _ hn, h2 j hj]
theorem Mk.hi_get {W : World} {g gc go gr gh n : Nat} {s : Int} {t : St} (h : Mk W g gc go gr gh n s t) (j : Nat) (hj : j < t.hi.length) (hn : j < n) : W.cell? ⟨gr, n + j, none⟩ = some (.int .i64 ((t.hi[j] : Nat) : Int)) := by
  obtain ⟨rf, h1, h2, h3⟩ := h.room
  rw [h1.c (n + j), row_get _ _ _ (by omega), h3 j hj]
theorem Mk.sp {W : World} {g gc go gr gh n : Nat} {s : Int} {t : St} (h : Mk W g gc go gr gh n s t) (j : Nat) (hn : j < 2 * n) : (W.cell? ⟨gr, j, none⟩).isSome = true ∧ W.frozen? ⟨gr, j, none⟩ = false := by
  obtain ⟨rf, h1, h2, h3⟩ := h.room
  rw [h1.c j, row_get _ _ _ hn]
  exact ⟨rfl, h1.f j⟩
theorem Mk.fillA {W : World} {B g gc go gr gh n : Nat} {s : Int} {t : St} (h : Mk W g gc go gr gh n s t) (hA : Ap5 B g gc go gr gh) (l : Nat) (hl : l < n) (u v : Int) :
    Mk ((W.setCell ⟨gc, l, none⟩ (.int .i64 u)).setCell ⟨go, l, none⟩ (.int .i64 v)) g gc go gr gh n s { t with cu := put t.cu l u, ot := put t.ot l v } := by
  have hn := hA.ne.1
  obtain ⟨rf, h1, h2, h3⟩ := h.room
  have e2 := h.tab.cb.set l (.int .i64 u)
  have e3 := (Bk.other9 h.tab.ob hn.2.2.1.symm l (.int .i64 u)).set l (.int .i64 v)
  rw [row_set _ _ _ _ hl] at e2 e3
  exact ⟨⟨Bk.other9 (Bk.other9 h.tab.tb hn.1 _ _) hn.2.1 _ _, Bk.other9 e2 hn.2.2.1 _ _, e3⟩, Bk.other9 (Bk.other9 h.hb hn.2.2.2.2.2.2.2.1.symm _ _) hn.2.2.2.2.2.2.2.2.1.symm _ _,
    rf, Bk.other9 (Bk.other9 h1 hn.2.2.2.2.1.symm _ _) hn.2.2.2.2.2.1.symm _ _, h2, h3⟩
theorem Mk.fillB {W : World} {B g gc go gr gh n : Nat} {s : Int} {t : St} (h : Mk W g gc go gr gh n s t) (hA : Ap5 B g gc go gr gh) (k : Nat) (hk : k < n) (v : Int) :
    Mk (W.setCell ⟨gh, k, none⟩ (.int .i64 v)) g gc go gr gh n s { t with ht := put t.ht k v } := by
  have hn := hA.ne.1
  obtain ⟨rf, h1, h2, h3⟩ := h.room
  have e1 := h.hb.set k (.int .i64 v)
  rw [row_set _ _ _ _ hk] at e1
  exact ⟨⟨Bk.other9 h.tab.tb hn.2.2.2.2.2.2.1 _ _, Bk.other9 h.tab.cb hn.2.2.2.2.2.2.2.1 _ _, Bk.other9 h.tab.ob hn.2.2.2.2.2.2.2.2.1 _ _⟩, e1, rf, Bk.other9 h1 hn.2.2.2.2.2.2.2.2.2 _ _, h2, h3⟩
theorem Mk.shrink {W : World} {g gc go gr gh n : Nat} {s : Int} {t : St} (h : Mk W g gc go gr gh n s t) {lo' hi' x y : List Nat} (hl : t.lo = lo' ++ x) (hh : t.hi = hi' ++ y) : Mk W g gc go gr gh n s { t with lo := lo', hi := hi' } := by
  obtain ⟨rf, h1, h2, h3⟩ := h.room
  refine ⟨h.tab, h.hb, rf, h1, fun j hj => ?_, fun j hj => ?_⟩
  · have hj' : j < lo'.length := hj
    rw [h2 j (by rw [hl, List.length_append]; omega)]
    simp only [hl]
    rw [List.getElem_append_left hj']
  · have hj' : j < hi'.length := hj
    rw [h3 j (by rw [hh, List.length_append]; omega)]
    simp only [hh]
    rw [List.getElem_append_left hj']
theorem Bk.lits {W : World} {g : Nat} {a b c : Value} {T : TypeId} (h : Bk W g #[a, b, c] T) : W.cell? ⟨g, 0, none⟩ = some a ∧ W.cell? ⟨g, 1, none⟩ = some b ∧ W.cell? ⟨g, 2, none⟩ = some c := ⟨h.c 0, h.c 1, h.c 2⟩
set_option maxHeartbeats 4000000 in
theorem new1 (ws : List Int) (a : Option Addr) (c : Nat) (w : World) (hr : Ri w a ws) (hn : 1 ≤ ws.length ∧ ws.length ≤ 64) (hz : 0 = whyW ws) :
    Calls Tryz.prog 5 #[.slice a ws.length c] w fun e w' => ∃ g gc go, e = .returned (.tuple #[.pointer (some ⟨g, 0, none⟩), .int .i64 0]) ∧ Tb w' g gc go ws.length (up (wf ws) ws.length) (table ws.length (wf ws)).cu (table ws.length (wf ws)).ot ∧ Ap w.heap.size g gc go ∧ Kp w w' := by
  have HW := Lib.hid (wrong1 ws a c w hr (by omega) 0 hz)
  have HR := Lib.hid hr
  have HZ := Lib.hid hz
  obtain ⟨n, hnn⟩ : ∃ n, ws.length = n := ⟨_, rfl⟩
  rw [hnn] at hn HW ⊢
  have HN := Lib.hid hnn
  clear hr hz hnn
  go_enter Tryz.func5, Tryz.ntmps5
  go_wp2_with fail
  refine HW.out.mono ?_; rintro e w' ⟨rfl, rfl⟩
  clear HW
  have M1 := fun W => mk64 n (by omega) W
  have M2 := fun W => mkInt n (by omega) W
  go_wp2_with fail
  apply wp_tab (Fa := fun w' g gc go => Tb w' g gc go n 0 (fun _ => 0) (fun _ => 0) ∧ Ap w.heap.size g gc go ∧ Kp w w')
  case h =>
    intro K KEY
    go_region
    all_goals try dsimp only [only]
    all_goals try go_simp
    · have T1 := tb_new1 w n
      have K1 := (((((Kp.refl w).al (.cells (row n (fun _ => 0)) 2)).al (.cells (row n (fun _ => 0)) 3)).al (.cells #[.int .i64 0, .slice (some ⟨w.heap.size, 0, none⟩) n n, .slice (some ⟨w.heap.size + 1, 0, none⟩) n n] 38))).dr1
      generalize ((((w.alloc (.cells (row n (fun _ => 0)) 2)).alloc (.cells (row n (fun _ => 0)) 3)).alloc (.cells #[.int .i64 0, .slice (some ⟨w.heap.size, 0, none⟩) n n, .slice (some ⟨w.heap.size + 1, 0, none⟩) n n] 38))).drew = W1 at *
      have hA : Ap w.heap.size (w.heap.size + 1 + 1) (w.heap.size) (w.heap.size + 1) := by unfold Ap; omega
      have FIN : ∀ g gc go, g = w.heap.size + 1 + 1 → gc = w.heap.size → go = w.heap.size + 1 → Tb W1 g gc go n 0 (fun _ => 0) (fun _ => 0) ∧ Ap w.heap.size g gc go ∧ Kp w W1 := by
        rintro _ _ _ rfl rfl rfl
        exact ⟨T1, hA, K1⟩
      obtain ⟨g, hg⟩ : ∃ g, g = w.heap.size + 1 + 1 := ⟨_, rfl⟩
      obtain ⟨g1, hg1⟩ : ∃ g, g = w.heap.size + 1 := ⟨_, rfl⟩
      obtain ⟨g0, hg0⟩ : ∃ g, g = w.heap.size := ⟨_, rfl⟩
      have F := FIN g g0 g1 hg hg0 hg1
      simp only [← hg]
      simp only [← hg1]
      simp only [← hg0]
      exact KEY.out _ g g0 g1 F
    · have T1 := tb_new2 w n
      have K1 := (((((Kp.refl w).al (.cells (row n (fun _ => 0)) 3)).al (.cells (row n (fun _ => 0)) 2)).al (.cells #[.int .i64 0, .slice (some ⟨w.heap.size + 1, 0, none⟩) n n, .slice (some ⟨w.heap.size, 0, none⟩) n n] 38))).dr1
      generalize ((((w.alloc (.cells (row n (fun _ => 0)) 3)).alloc (.cells (row n (fun _ => 0)) 2)).alloc (.cells #[.int .i64 0, .slice (some ⟨w.heap.size + 1, 0, none⟩) n n, .slice (some ⟨w.heap.size, 0, none⟩) n n] 38))).drew = W1 at *
      have hA : Ap w.heap.size (w.heap.size + 1 + 1) (w.heap.size + 1) (w.heap.size) := by unfold Ap; omega
      have FIN : ∀ g gc go, g = w.heap.size + 1 + 1 → gc = w.heap.size + 1 → go = w.heap.size → Tb W1 g gc go n 0 (fun _ => 0) (fun _ => 0) ∧ Ap w.heap.size g gc go ∧ Kp w W1 := by
        rintro _ _ _ rfl rfl rfl
        exact ⟨T1, hA, K1⟩
      obtain ⟨g, hg⟩ : ∃ g, g = w.heap.size + 1 + 1 := ⟨_, rfl⟩
      obtain ⟨g1, hg1⟩ : ∃ g, g = w.heap.size + 1 := ⟨_, rfl⟩
      obtain ⟨g0, hg0⟩ : ∃ g, g = w.heap.size := ⟨_, rfl⟩
      have F := FIN g g1 g0 hg hg1 hg0
      simp only [← hg]
      simp only [← hg1]
      simp only [← hg0]
      exact KEY.out _ g g1 g0 F
  case rest =>
    intro w1 g gc go HF
    obtain ⟨HT, hA, hK⟩ := HF
    have K := Lib.hid hK
    have HT := Lib.hid HT
    have HA := Lib.hid hA
    have HR1 := Lib.hid (HR.out.nx hK)
    clear hK hA
    have HAll := Lib.hid (why0 HZ.out).1
    go_wp2_with fail
    go_loopw [32] (fun s32 wr => ∃ i : Nat, s32 = .int .i64 (i : Int) ∧ i ≤ n ∧ Hid (Tb wr g gc go n (up (wf ws) i) (fun _ => 0) (fun _ => 0)) ∧ Hid (Kp w wr)) (fun v _ => n - (intOf v).toNat)
    case atStart => exact ⟨0, rfl, by omega, HT, K⟩
    case round =>
      clear HT K HR1
      obtain ⟨i, rfl, hi, HT, K⟩ := hrel
      by_cases hlt : i < n
      · have hlt2 : (i : Int) < (n : Int) := by omega
        have hlw : i < ws.length := by rw [HN.out]; exact hlt
        obtain ⟨bb, off, rfl, hbl, hc⟩ := (HR.out.nx K.out).get hlw
        have hci := hc i hlw
        rw [← wf_get ws i hlw] at hci
        have hb1 := up_bd HAll.out i (by omega)
        have hb2 := wf_ok HAll.out i
        have c0 := HT.out.tb.c 0
        have f0 := HT.out.tb.f 0
        have HU := Lib.hid (show up (wf ws) (i + 1) = up (wf ws) i + wf ws i from rfl)
        generalize up (wf ws) i = u at *
        generalize wf ws i = x at *
        clear hc
        go_wp2_with fail
        go_roundw
        case rel => exact ⟨i + 1, by go_num, by omega, by rw [HU.out]; exact Lib.hid (HT.out.setsum HA.out.2.2.2.1 HA.out.2.2.2.2.1 _), Lib.hid (K.out.setCell (p := ⟨g, 0, none⟩) HA.out.1 _)⟩
        case measure => simp [intOf]; omega
      · have hlt2 : ¬ ((i : Int) < (n : Int)) := by omega
        rw [show i = n by omega] at HT
        have M3 : ∀ W, (Instr.makeSlice 30 (.int .i64 (2 * (n : Int))) (.int .i64 (2 * (n : Int)))).run Tryz.prog W = .ok (.slice (some ⟨W.heap.size, 0, none⟩) (2 * n) (2 * n)) (W.alloc (.cells (row (2 * n) (fun _ => 0)) 3)) := fun W => by
          have h := mkInt (2 * n) (by omega) W
          rwa [show ((2 * n : Nat) : Int) = 2 * (n : Int) by omega] at h
        go_wp2_with fail
        go_quiet (fail)
        go_wp2_with fail
        have hrb := (Bk.new wr (row (2 * n) (fun _ => 0)) 3).nx ((Kp.refl _).dr nq)
        have hhb := Bk.new ((wr.alloc (.cells (row (2 * n) (fun _ => 0)) 3)).drewN nq) (row n (fun _ => 0)) 2
        have hs9 : ((wr.alloc (.cells (row (2 * n) (fun _ => 0)) 3)).drewN nq).heap.size = wr.heap.size + 1 := World.size_alloc _ _
        have kA := (((Kp.refl wr).al (.cells (row (2 * n) (fun _ => 0)) 3)).dr nq).al (.cells (row n (fun _ => 0)) 2)
        rw [hs9] at hhb
        have hMk : Mk (((wr.alloc (.cells (row (2 * n) (fun _ => 0)) 3)).drewN nq).alloc (.cells (row n (fun _ => 0)) 2)) g gc go wr.heap.size (wr.heap.size + 1) n (up (wf ws) n) st0 :=
          ⟨HT.out.nx kA, hhb, fun _ => 0, hrb.nx ((Kp.refl _).al _), fun j h => absurd h (by simp [st0]), fun j h => absurd h (by simp [st0])⟩
        have hA5 : Ap5 w.heap.size g gc go wr.heap.size (wr.heap.size + 1) := ⟨HA.out, HT.out.tb.lt, HT.out.cb.lt, HT.out.ob.lt, Nat.lt_succ_self _⟩
        have K9 := Lib.hid (Kp.nx K.out kA)
        clear hrb hhb hs9 kA K HT
        generalize (((wr.alloc (.cells (row (2 * n) (fun _ => 0)) 3)).drewN nq).alloc (.cells (row n (fun _ => 0)) 2)) = V at *
        obtain ⟨gh, hgh⟩ : ∃ x, x = wr.heap.size + 1 := ⟨_, rfl⟩
        obtain ⟨gr, hgr⟩ : ∃ x, x = wr.heap.size := ⟨_, rfl⟩
        rw [← hgh, ← hgr] at hMk hA5
        simp only [← hgh]
        simp only [← hgr]
        obtain ⟨k2, hk2⟩ : ∃ k, k = 2 * n - n := ⟨_, rfl⟩
        simp only [← hk2]
        have HK3 := Lib.hid (show k2 = n by omega)
        obtain ⟨s, hs⟩ : ∃ s, s = up (wf ws) n := ⟨_, rfl⟩
        have HS := Lib.hid hs
        have hsb := up_bd HAll.out n (by omega)
        rw [← hs] at hMk hsb
        have HM0 := Lib.hid hMk
        have HA5 := Lib.hid hA5
        clear hgh hgr hk2 hs hMk hA5 M1 M2 M3 hi hlt hlt2
        go_loopw [10, 11, 61] (fun s10 s11 s61 wx => ∃ (i p q : Nat) (t : St), s61 = .int .i64 (i : Int) ∧ i ≤ n ∧ s10 = .slice (some ⟨gr, 0, none⟩) p n ∧ s11 = .slice (some ⟨gr, n, none⟩) q k2 ∧ p + q = i ∧ Hid (t = st2 n s (wf ws) i ∧ p = t.lo.length ∧ q = t.hi.length) ∧ Hid (Mk wx g gc go gr gh n s t) ∧ Hid (Kp w wx)) (fun _ _ v _ => n - (intOf v).toNat)
        case atStart => exact ⟨0, 0, 0, st0, rfl, by omega, rfl, rfl, rfl, Lib.hid ⟨rfl, rfl, rfl⟩, HM0, K9⟩
        case round =>
          clear HM0 K9
          obtain ⟨i, p, q, t, rfl, hi, rfl, rfl, hpq, HT, HM, K⟩ := hrel
          by_cases hlt : i < n
          · have hlt2 : (i : Int) < (n : Int) := by omega
            have hlw : i < ws.length := by rw [HN.out]; exact hlt
            obtain ⟨bb, off, rfl, hbl, hc⟩ := (HR.out.nx K.out).get hlw
            have hci := hc i hlw
            rw [← wf_get ws i hlw] at hci
            have hb2 := wf_ok HAll.out i
            obtain ⟨x, hx⟩ : ∃ x, x = wf ws i := ⟨_, rfl⟩
            rw [← hx] at hci hb2
            have HX := Lib.hid hx
            obtain ⟨y, hy⟩ : ∃ y : Int, y = (n : Int) * x := ⟨_, rfl⟩
            have hyb : 0 ≤ y ∧ y ≤ 67108864 := by
              have h1 : 0 ≤ (n : Int) * x := Int.mul_nonneg (by omega) hb2.1
              have h2 : (n : Int) * x ≤ 64 * 1048576 := Int.mul_le_mul (by omega) hb2.2 hb2.1 (by omega)
              omega
            have hy1 : (n : Int) * x = y := hy.symm
            have hy2 : IntKind.i64.wrap y = y := by rw [IntKind.wrap_i64]; omega
            have HY := Lib.hid hy
            clear hx hc hy
            have HB := HM.out.tab.tb
            obtain ⟨c0, c1, c2⟩ := Bk.lits HB
            have xh := (HM.out.hb.c i).trans (row_get n t.ht i hlt)
            have xc := (HM.out.tab.cb.c i).trans (row_get n t.cu i hlt)
            have xo := (HM.out.tab.ob.c i).trans (row_get n t.ot i hlt)
            have fh := HM.out.hb.f i
            have fc := HM.out.tab.cb.f i
            have fo := HM.out.tab.ob.f i
            have hne := HA5.out.ne.1
            obtain ⟨ne1, ne2, ne3, -, -, -, ne7, ne8, ne9, -⟩ := hne
            have me1 := ne1.symm
            have me2 := ne2.symm
            have me3 := ne3.symm
            have me7 := ne7.symm
            have me8 := ne8.symm
            have me9 := ne9.symm
            generalize t.ht i = vh at *
            generalize t.cu i = vc at *
            generalize t.ot i = vo at *
            go_wp2_with fail
            have HBd := HB.nx (Kp.refl _).dr1
            go_region_held3 (fun W => W.cell? ⟨g, 0, none⟩ = some (.int .i64 s) ∧ W.cell? ⟨g, 1, none⟩ = some (.slice (some ⟨gc, 0, none⟩) n n) ∧ W.cell? ⟨g, 2, none⟩ = some (.slice (some ⟨go, 0, none⟩) n n))
              (first
                | exact Bk.lits HB
                | exact Bk.lits HBd
                | exact Bk.lits (Bk.other9 HBd ne7 _ _)
                | exact Bk.lits (Bk.other9 (Bk.other9 HBd ne7 _ _) ne1 _ _)
                | exact Bk.lits (Bk.other9 (Bk.other9 (Bk.other9 HBd ne7 _ _) ne1 _ _) ne2 _ _))
              (fail)
            have HM1 := (HM.out.lay HA5.out i hlt y)
            have K1 : Kp w (((wr.setCell ⟨gh, i, none⟩ (.int .i64 y)).setCell ⟨gc, i, none⟩ (.int .i64 s)).setCell ⟨go, i, none⟩ (.int .i64 (i : Int))) := ((K.out.setCell (p := ⟨gh, i, none⟩) HA5.out.ne.2.2.2.2.2 _).setCell (p := ⟨gc, i, none⟩) HA5.out.ne.2.2.1 _).setCell (p := ⟨go, i, none⟩) HA5.out.ne.2.2.2.1 _
            clear HM HB HBd c0 c1 c2 xh xc xo fh fc fo ne1 ne2 ne3 ne7 ne8 ne9 me1 me2 me3 me7 me8 me9 hci
            generalize (((wr.setCell ⟨gh, i, none⟩ (.int .i64 y)).setCell ⟨gc, i, none⟩ (.int .i64 s)).setCell ⟨go, i, none⟩ (.int .i64 (i : Int))) = W2 at *
            have HM1 := Lib.hid (HM1.nx (Kp.refl W2).dr1)
            have K1 := Lib.hid (show Kp w W2.drew from Kp.nx K1 (Kp.refl W2).dr1)
            generalize W2.drew = W3 at *
            have c0 := HM1.out.tab.tb.c 0
            have xh := (HM1.out.hb.c i).trans (row_get n _ i hlt)
            simp only [put, if_pos] at xh
            obtain ⟨i0, hi0, hz0, hz1, hz2⟩ := info_parts Tryz.info3
            go_wp2_with fail
            go_quiet (fail)
            have kp : Kp W3 ((W3.drewN nq).alloc (.cells #[.int .i64 (i : Int)] 3)) := ((Kp.refl W3).dr nq).al _
            have HM3 := Lib.hid (HM1.out.nx kp)
            have hpq1 : p + 1 ≤ n := by omega
            have hpq2 : q + 1 ≤ k2 := by rw [HK3.out]; omega
            clear HM1 c0 xh
            by_cases hys : y < s
            · have E9 : step2 n s (wf ws) t i = { ht := put t.ht i y, cu := put t.cu i s, ot := put t.ot i i, lo := t.lo ++ [i], hi := t.hi } := by
                unfold step2
                rw [← HX.out, ← HY.out, if_pos hys, if_pos hys]
              have HM4 := HM3.out.push_lo HA5.out p HT.out.2.1 (by omega) i
              rw [← E9] at HM4
              have HM4 := Lib.hid HM4
              have E9 := Lib.hid E9
              go_wp2_with (at_builtin; refine wpList_append1 _ rfl _ _ 30 rfl 3 i0 Tryz.underlying30 hi0 hz1 gr 0 p n rfl ⟨W3.heap.size, 0, none⟩ 1 (i : Int) rfl ((Bk.new (W3.drewN nq) #[.int .i64 (i : Int)] 3).c 0) (by omega) (by rw [Nat.zero_add]; exact (HM3.out.sp (p) (by omega)).1) (by rw [Nat.zero_add]; exact (HM3.out.sp (p) (by omega)).2) ?_)
              try simp only [Nat.zero_add]
              go_roundw
              case rel => exact ⟨i + 1, p + 1, q, step2 n s (wf ws) t i, by go_num, by omega, rfl, rfl, by omega, Lib.hid ⟨by rw [HT.out.1]; rfl, by rw [E9.out]; simp [HT.out.2.1], by rw [E9.out]; exact HT.out.2.2⟩, HM4, Lib.hid ((Kp.nx K1.out kp).setCell (p := ⟨gr, p, none⟩) HA5.out.ne.2.2.2.2.1 _)⟩
              case measure => simp [intOf]; omega
            · have E9 : step2 n s (wf ws) t i = { ht := put t.ht i y, cu := put t.cu i s, ot := put t.ot i i, lo := t.lo, hi := t.hi ++ [i] } := by
                unfold step2
                rw [← HX.out, ← HY.out, if_neg hys, if_neg hys]
              have HM4 := HM3.out.push_hi HA5.out q HT.out.2.2 (by omega) (by show t.lo.length ≤ n; rw [← HT.out.2.1]; omega) i
              rw [← E9] at HM4
              have HM4 := Lib.hid HM4
              have E9 := Lib.hid E9
              go_wp2_with (at_builtin; refine wpList_append1 _ rfl _ _ 30 rfl 3 i0 Tryz.underlying30 hi0 hz1 gr n q k2 rfl ⟨W3.heap.size, 0, none⟩ 1 (i : Int) rfl ((Bk.new (W3.drewN nq) #[.int .i64 (i : Int)] 3).c 0) (by omega) (by exact (HM3.out.sp (n + q) (by omega)).1) (by exact (HM3.out.sp (n + q) (by omega)).2) ?_)
              try simp only [Nat.zero_add]
              go_roundw
              case rel => exact ⟨i + 1, p, q + 1, step2 n s (wf ws) t i, by go_num, by omega, rfl, rfl, by omega, Lib.hid ⟨by rw [HT.out.1]; rfl, by rw [E9.out]; exact HT.out.2.1, by rw [E9.out]; simp [HT.out.2.2]⟩, HM4, Lib.hid ((Kp.nx K1.out kp).setCell (p := ⟨gr, n + q, none⟩) HA5.out.ne.2.2.2.2.1 _)⟩
              case measure => simp [intOf]; omega
          · have hlt2 : ¬ ((i : Int) < (n : Int)) := by omega
            have hin : i = n := by omega
            have hOk := (Ok.start (n := n) (s := s) (w := wf ws) (fun j => Int.mul_nonneg (by omega) (wf_ok HAll.out j).1) (fun j => by
              have h2 : (n : Int) * wf ws j ≤ 64 * 1048576 := Int.mul_le_mul (by omega) (wf_ok HAll.out j).2 (wf_ok HAll.out j).1 (by omega)
              omega) n (Nat.le_refl _)).1
            have hT := HT.out
            rw [hin] at hT
            obtain ⟨tb, htb⟩ : ∃ x, x = table n (wf ws) := ⟨_, rfl⟩
            have HI := Lib.hid (show p = t.lo.length ∧ q = t.hi.length ∧ Ok n s t ∧ run3 s (n + 1) t = tb ∧ p + q ≤ n + 1 by
              refine ⟨hT.2.1, hT.2.2, by rw [hT.1]; exact hOk, ?_, by omega⟩
              rw [htb, table, hT.1, HS.out])
            have HTB := Lib.hid htb
            have hpn : p + q ≤ n := by omega
            clear hT hOk htb HT hin hi hpq HR HAll
            go_wp2_with fail
            go_loopw [10, 11] (fun s10 s11 wx => ∃ (p q f : Nat) (t : St), s10 = .slice (some ⟨gr, 0, none⟩) p n ∧ s11 = .slice (some ⟨gr, n, none⟩) q k2 ∧ p + q ≤ n ∧ Hid (p = t.lo.length ∧ q = t.hi.length ∧ Ok n s t ∧ run3 s f t = tb ∧ p + q ≤ f) ∧ Hid (Mk wx g gc go gr gh n s t) ∧ Hid (Kp w wx)) (fun v v' _ => lenV v + lenV v')
            case atStart => exact ⟨p, q, n + 1, t, rfl, rfl, hpn, HI, HM, K⟩
            case round =>
              clear HI HM K hpn
              obtain ⟨p, q, f, t, rfl, rfl, hpn, HI, HM, K⟩ := hrel
              by_cases hz : p = 0 ∨ q = 0
              · have HE : t = tb := by
                  have h := HI.out
                  rw [← h.2.2.2.1]
                  refine (run3_end ?_ f).symm
                  rcases hz with hz | hz
                  · left; exact List.eq_nil_of_length_eq_zero (by omega)
                  · right; exact List.eq_nil_of_length_eq_zero (by omega)
                have HM2 := HM.out
                rw [HE] at HM2
                have HM3 := Lib.hid HM2
                clear HM HE HI HM2
                rcases Nat.eq_zero_or_pos p with hp0 | hp0
                · subst hp0
                  clear hz
                  go_wp2_with fail
                  refine bodyPost_ret (v := .tuple #[.pointer (some ⟨g, 0, none⟩), .int .i64 0]) (by simp [results, Tryz.results5, go_sem]) rfl ?_
                  exact ⟨g, gc, go, rfl, by rw [← HTB.out, ← HS.out]; exact HM3.out.tab, HA5.out.ap, K.out⟩
                · have hq0 : q = 0 := by omega
                  subst hq0
                  have hp1 : (0 : Int) < (p : Int) := by omega
                  clear hz
                  go_wp2_with fail
                  refine bodyPost_ret (v := .tuple #[.pointer (some ⟨g, 0, none⟩), .int .i64 0]) (by simp [results, Tryz.results5, go_sem]) rfl ?_
                  exact ⟨g, gc, go, rfl, by rw [← HTB.out, ← HS.out]; exact HM3.out.tab, HA5.out.ap, K.out⟩
              · obtain ⟨p1, rfl⟩ : ∃ x, p = x + 1 := ⟨p - 1, by omega⟩
                obtain ⟨q1, rfl⟩ : ∃ x, q = x + 1 := ⟨q - 1, by omega⟩
                obtain ⟨f1, rfl⟩ : ∃ x, f = x + 1 := ⟨f - 1, by have := HI.out.2.2.2.2; omega⟩
                have hI := HI.out
                obtain ⟨l, hl⟩ : ∃ l, t.lo[p1]'(by omega) = l := ⟨_, rfl⟩
                obtain ⟨h, hh⟩ : ∃ h, t.hi[q1]'(by omega) = h := ⟨_, rfl⟩
                have el : t.lo = t.lo.dropLast ++ [l] := by
                  have hne : t.lo ≠ [] := by intro e; rw [e] at hI; simp at hI
                  have e1 := List.dropLast_concat_getLast hne
                  rw [List.getLast_eq_getElem] at e1
                  rw [← hl]
                  have e2 : t.lo.length - 1 = p1 := by omega
                  simp only [e2] at e1
                  exact e1.symm
                have eh : t.hi = t.hi.dropLast ++ [h] := by
                  have hne : t.hi ≠ [] := by intro e; rw [e] at hI; simp at hI
                  have e1 := List.dropLast_concat_getLast hne
                  rw [List.getLast_eq_getElem] at e1
                  rw [← hh]
                  have e2 : t.hi.length - 1 = q1 := by omega
                  simp only [e2] at e1
                  exact e1.symm
                obtain ⟨hO, hlh, b1, b2, b3, b4, hln, hkn⟩ := hI.2.2.1.step el eh
                have hR := run3_step el eh f1 (s := s)
                rw [hI.2.2.2.1] at hR
                have xl := HM.out.lo_get p1 (by omega) (by omega)
                have xr := HM.out.hi_get q1 (by omega) (by omega)
                rw [hl] at xl
                rw [hh] at xr
                have hlp : t.lo.dropLast.length = p1 := by rw [List.length_dropLast]; omega
                have hhq : t.hi.dropLast.length = q1 := by rw [List.length_dropLast]; omega
                have HL := Lib.hid (show t.lo = t.lo.dropLast ++ [l] ∧ t.hi = t.hi.dropLast ++ [h] ∧ t.lo.dropLast.length = p1 ∧ t.hi.dropLast.length = q1 ∧ Ok n s (step3 s t l h t.lo.dropLast t.hi.dropLast) ∧ run3 s f1 (step3 s t l h t.lo.dropLast t.hi.dropLast) = tb ∧ p1 + 1 + (q1 + 1) ≤ f1 + 1 from ⟨el, eh, hlp, hhq, hO, hR.symm, hI.2.2.2.2⟩)
                obtain ⟨a0, ha0⟩ : ∃ x, x = t.ht l := ⟨_, rfl⟩
                obtain ⟨b0, hb0⟩ : ∃ x, x = t.ht h := ⟨_, rfl⟩
                rw [← ha0] at b1 b2
                rw [← hb0] at b3 b4
                have HA0 := Lib.hid ha0
                have HB0 := Lib.hid hb0
                clear hI el eh hl hh hO hR hlp hhq ha0 hb0 HI hz
                have hp2 : (p1 : Int) + 1 ≤ (n : Int) := by omega
                have hq2 : q1 + 1 ≤ k2 := by rw [HK3.out]; omega
                have hq3 : (q1 : Int) + 1 ≤ (k2 : Int) := by omega
                have hl3 : (l : Int) < (n : Int) := by omega
                have hk3 : (h : Int) < (n : Int) := by omega
                go_wp2_with fail
                go_quiet (fail)
                have HMd := Lib.hid (HM.out.nx ((Kp.refl _).dr nq))
                have Kd := Lib.hid (Kp.nx K.out ((Kp.refl _).dr nq))
                clear HM K xl xr
                go_wp2_with fail
                generalize World.drewN _ nq = X1 at *
                have HB := HMd.out.tab.tb
                obtain ⟨c0, c1, c2⟩ := Bk.lits HB
                have xa := (HMd.out.hb.c l).trans (row_get n t.ht l hln)
                rw [← HA0.out] at xa
                have xc := (HMd.out.tab.cb.c l).trans (row_get n t.cu l hln)
                have xo := (HMd.out.tab.ob.c l).trans (row_get n t.ot l hln)
                have fc := HMd.out.tab.cb.f l
                have fo := HMd.out.tab.ob.f l
                obtain ⟨ne1, ne2, ne3, -, -, -, ne7, ne8, ne9, -⟩ := HA5.out.ne.1
                have me1 := ne1.symm
                have me2 := ne2.symm
                have me3 := ne3.symm
                have me7 := ne7.symm
                have me8 := ne8.symm
                have me9 := ne9.symm
                generalize t.cu l = vc at xc
                generalize t.ot l = vo at xo
                have HBd := HB.nx (Kp.refl _).dr1
                have HHd := HMd.out.hb.nx (Kp.refl _).dr1
                have hha : ∀ W, Bk W gh (row n t.ht) 2 → W.cell? ⟨gh, l, none⟩ = some (.int .i64 a0) := fun W hW => by rw [HA0.out]; exact (hW.c l).trans (row_get n t.ht l hln)
                go_region_held3 (fun W => (W.cell? ⟨g, 0, none⟩ = some (.int .i64 s) ∧ W.cell? ⟨g, 1, none⟩ = some (.slice (some ⟨gc, 0, none⟩) n n) ∧ W.cell? ⟨g, 2, none⟩ = some (.slice (some ⟨go, 0, none⟩) n n)) ∧ W.cell? ⟨gh, l, none⟩ = some (.int .i64 a0))
                  (first
                    | exact ⟨Bk.lits HB, hha _ HMd.out.hb⟩
                    | exact ⟨Bk.lits HBd, hha _ HHd⟩
                    | exact ⟨Bk.lits (Bk.other9 HBd ne1 _ _), hha _ (Bk.other9 HHd me8 _ _)⟩
                    | exact ⟨Bk.lits (Bk.other9 (Bk.other9 HBd ne1 _ _) ne2 _ _), hha _ (Bk.other9 (Bk.other9 HHd me8 _ _) me9 _ _)⟩)
                  (fail)
                have HM2 := HMd.out.fillA HA5.out l hln a0 (h : Int)
                have K2 : Kp w ((X1.setCell ⟨gc, l, none⟩ (.int .i64 a0)).setCell ⟨go, l, none⟩ (.int .i64 (h : Int))) := (Kd.out.setCell (p := ⟨gc, l, none⟩) HA5.out.ne.2.2.1 _).setCell (p := ⟨go, l, none⟩) HA5.out.ne.2.2.2.1 _
                clear HMd Kd HB HBd HHd c0 c1 c2 xa xc xo fc fo hha
                generalize ((X1.setCell ⟨gc, l, none⟩ (.int .i64 a0)).setCell ⟨go, l, none⟩ (.int .i64 (h : Int))) = X2 at *
                have HM3 := Lib.hid (HM2.nx (Kp.refl X2).dr1)
                have K3 := Lib.hid (show Kp w X2.drew from Kp.nx K2 (Kp.refl X2).dr1)
                generalize X2.drew = X3 at *
                clear HM2 K2
                have c0 := HM3.out.tab.tb.c 0
                have xa := (HM3.out.hb.c l).trans (row_get n _ l hln)
                have xb := (HM3.out.hb.c h).trans (row_get n _ h hkn)
                simp only at xa xb
                rw [← HA0.out] at xa
                rw [← HB0.out] at xb
                have fb := HM3.out.hb.f h
                go_wp2_with fail
                go_region
                obtain ⟨v, hv⟩ : ∃ v : Int, v = b0 - (s - a0) := ⟨_, rfl⟩
                simp only [← hv]
                have hvb : 0 ≤ v ∧ v ≤ 134217728 := by omega
                have HVV := Lib.hid hv
                have HM4 := (HM3.out.fillB HA5.out h hkn v)
                have K4 : Kp w (X3.setCell ⟨gh, h, none⟩ (.int .i64 v)) := K3.out.setCell (p := ⟨gh, h, none⟩) HA5.out.ne.2.2.2.2.2 _
                clear HM3 K3 c0 xa xb fb hv
                generalize (X3.setCell ⟨gh, h, none⟩ (.int .i64 v)) = X4 at *
                have HM5 := Lib.hid (HM4.nx (Kp.refl X4).dr1)
                have K5 := Lib.hid (show Kp w X4.drew from Kp.nx K4 (Kp.refl X4).dr1)
                generalize X4.drew = X5 at *
                clear HM4 K4
                have c0 := HM5.out.tab.tb.c 0
                have xv := (HM5.out.hb.c h).trans (row_get n _ h hkn)
                simp only [put_eq] at xv
                obtain ⟨i0, hi0, hz0, hz1, hz2⟩ := info_parts Tryz.info3
                clear b1 b2 b3 b4 hlh ne1 ne2 ne3 ne7 ne8 ne9 me1 me2 me3 me7 me8 me9
                go_wp2_with fail
                go_quiet (fail)
                by_cases hvs : v < s
                · have E9 : step3 s t l h t.lo.dropLast t.hi.dropLast = { ht := put t.ht h v, cu := put t.cu l a0, ot := put t.ot l h, lo := t.lo.dropLast ++ [h], hi := t.hi.dropLast } := by
                    unfold step3
                    rw [← HA0.out, ← HB0.out, ← HVV.out]
                    dsimp only
                    rw [if_pos hvs, if_pos hvs]
                  have kp : Kp X5 ((X5.drewN nq).alloc (.cells #[.int .i64 (h : Int)] 3)) := ((Kp.refl X5).dr nq).al _
                  have HM6 := (HM5.out.shrink (lo' := t.lo.dropLast) (hi' := t.hi.dropLast) (x := [l]) (y := [h]) HL.out.1 HL.out.2.1).nx kp
                  have HSP := Lib.hid (HM6.sp p1 (by omega))
                  have HM7 := HM6.push_lo HA5.out p1 HL.out.2.2.1.symm (by omega) h
                  rw [← E9] at HM7
                  have HM7 := Lib.hid HM7
                  have E9 := Lib.hid E9
                  clear HM5 HM6 c0 xv
                  go_wp2_with (at_builtin; refine wpList_append1 _ rfl _ _ 30 rfl 3 i0 Tryz.underlying30 hi0 hz1 gr 0 p1 n rfl ⟨X5.heap.size, 0, none⟩ 1 (h : Int) rfl ((Bk.new (X5.drewN nq) #[.int .i64 (h : Int)] 3).c 0) (by omega) (by rw [Nat.zero_add]; exact HSP.out.1) (by rw [Nat.zero_add]; exact HSP.out.2) ?_)
                  try simp only [Nat.zero_add]
                  go_roundw
                  case rel => exact ⟨p1 + 1, q1, f1, step3 s t l h t.lo.dropLast t.hi.dropLast, rfl, rfl, by omega, Lib.hid ⟨by rw [E9.out]; simp [HL.out.2.2.1], by rw [E9.out]; exact HL.out.2.2.2.1.symm, HL.out.2.2.2.2.1, HL.out.2.2.2.2.2.1, by have := HL.out.2.2.2.2.2.2; omega⟩, HM7, Lib.hid ((Kp.nx K5.out kp).setCell (p := ⟨gr, p1, none⟩) HA5.out.ne.2.2.2.2.1 _)⟩
                  case measure => simp [lenV]
                · have E9 : step3 s t l h t.lo.dropLast t.hi.dropLast = { ht := put t.ht h v, cu := put t.cu l a0, ot := put t.ot l h, lo := t.lo.dropLast, hi := t.hi } := by
                    unfold step3
                    rw [← HA0.out, ← HB0.out, ← HVV.out]
                    dsimp only
                    rw [if_neg hvs, if_neg hvs, ← HL.out.2.1]
                  have HM6 := (HM5.out.shrink (lo' := t.lo.dropLast) (hi' := t.hi) (x := [l]) (y := []) HL.out.1 (by simp)).nx ((Kp.refl X5).dr nq)
                  have hql : t.hi.length = q1 + 1 := by rw [HL.out.2.1, List.length_append, HL.out.2.2.2.1]; rfl
                  have HQL := Lib.hid hql
                  have HM7 : Mk (X5.drewN nq) g gc go gr gh n s (step3 s t l h t.lo.dropLast t.hi.dropLast) := by rw [E9]; exact HM6
                  have HM7 := Lib.hid HM7
                  have E9 := Lib.hid E9
                  clear HM5 HM6 c0 xv hql
                  go_wp2_with fail
                  go_roundw
                  case rel => exact ⟨p1, q1 + 1, f1, step3 s t l h t.lo.dropLast t.hi.dropLast, rfl, rfl, by omega, Lib.hid ⟨by rw [E9.out]; exact HL.out.2.2.1.symm, by rw [E9.out]; exact HQL.out.symm, HL.out.2.2.2.2.1, HL.out.2.2.2.2.2.1, by have := HL.out.2.2.2.2.2.2; omega⟩, HM7, Lib.hid (Kp.nx K5.out ((Kp.refl X5).dr nq))⟩
                  case measure => simp [lenV]; try omega
end Go.Proofs.AL
