/- Alias tables: the examples of AliasNames: weights, and why they are none; weights, and their tables. Plain, but for where they lie. -/
import Derived.Test.YticickjnlkbkoaaGreatAliI
import Derived.Test.YticickjnlkbkoaaGreatAltG
namespace Go.Proofs.AL
open Go.RowKit
open Go.Proofs
open Go.Proofs.SL
open Go.Proofs.RA
open Go
set_option linter.unusedVariables false
set_option linter.unusedSimpArgs false
def ws9 : Nat → List Int
  | 0 => []
  | 1 => List.replicate 65 0
  | 2 => [-1, 0]
  | 3 => [1048577]
  | 4 => [0, 0]
  | 5 => List.replicate 64 0
  | 6 => [1048576]
  | 7 => [0, 1]
  | 8 => [9223372036854775807, 9223372036854775807]
  | _ => []
def er9 : Nat → Int
  | 0 => 4
  | 1 => 5
  | 2 => 1
  | 3 => 1
  | 4 => 7
  | 5 => 7
  | 6 => 0
  | 7 => 0
  | 8 => 1
  | _ => 0
theorem er9_why : ∀ m, m < 9 → er9 m = whyW (ws9 m) := by decide +kernel
theorem ws9_len : ∀ m, m < 9 → (ws9 m).length ≤ 65 := by decide +kernel
/-- a row of weights as a slice -/
def Sl9 (ws : List Int) (v : Value) (w : World) : Prop := ∃ p c, v = .slice p ws.length c ∧ Ri w p ws
/-- an example -/
def Ex9 (m : Nat) (v : Value) (w : World) : Prop := ∃ p c, v = .agg #[.slice p (ws9 m).length c, .int .i64 (er9 m)] ∧ Ri w p (ws9 m)
/-- all of them in one block -/
def Al9 (v : Value) (w : World) : Prop := ∃ b, v = .slice (some ⟨b, 0, none⟩) 9 9 ∧ b < w.heap.size ∧ ∀ m, m < 9 → ∃ p c, w.cell? ⟨b, m * 2, none⟩ = some (.slice p (ws9 m).length c) ∧ w.cell? ⟨b, m * 2 + 1, none⟩ = some (.int .i64 (er9 m)) ∧ Ri w p (ws9 m)
/-- what is told of each value of the region -/
def P9 (i : Nat) (v : Value) (w : World) : Prop :=
  if i = 19 then v = .int .i64 0 else if i = 18 then v = .int .i64 9 else if i = 17 then Al9 v w else if i % 2 = 1 then Sl9 (ws9 ((i + 1) / 2)) v w else Ex9 (i / 2) v w
theorem Sl9.nx {ws : List Int} {v : Value} {w w' : World} (h : Sl9 ws v w) (hk : Kp w w') : Sl9 ws v w' := by
  obtain ⟨p, c, h1, h2⟩ := h
  exact ⟨p, c, h1, h2.nx hk⟩
theorem Ex9.nx {m : Nat} {v : Value} {w w' : World} (h : Ex9 m v w) (hk : Kp w w') : Ex9 m v w' := by
  obtain ⟨p, c, h1, h2⟩ := h
  exact ⟨p, c, h1, h2.nx hk⟩
theorem Al9.nx {v : Value} {w w' : World} (h : Al9 v w) (hk : Kp w w') : Al9 v w' := by
  obtain ⟨b, h1, h2, h3⟩ := h
  refine ⟨b, h1, Nat.lt_of_lt_of_le h2 hk.size, fun m hm => ?_⟩
  obtain ⟨p, c, a1, a2, a3⟩ := h3 m hm
  exact ⟨p, c, (Below.cell hk.below (p := ⟨b, m * 2, none⟩) h2).trans a1, (Below.cell hk.below (p := ⟨b, m * 2 + 1, none⟩) h2).trans a2, a3.nx hk⟩
theorem P9.nx (i : Nat) (v : Value) (w w' : World) (h : P9 i v w) (hk : Kp w w') : P9 i v w' := by
  unfold P9 at h ⊢
  split
  · rename_i e; rw [if_pos e] at h; exact h
  · rename_i e; rw [if_neg e] at h
    split
    · rename_i e; rw [if_pos e] at h; exact h
    · rename_i e; rw [if_neg e] at h
      split
      · rename_i e; rw [if_pos e] at h; exact h.nx hk
      · rename_i e; rw [if_neg e] at h
        split
        · rename_i e; rw [if_pos e] at h; exact h.nx hk
        · rename_i e; rw [if_neg e] at h; exact h.nx hk
/-- a row that was laid just now -/
theorem Sl9.new (w : World) (ws : List Int) (cs : Array Value) (T : TypeId) (n : Nat) (hn : ws.length = n) (hc : ∀ i (h : i < ws.length), cs[i]? = some (.int .i64 ws[i])) : Sl9 ws (.slice (some ⟨w.heap.size, 0, none⟩) n n) (w.alloc (.cells cs T)) := by
  subst hn
  refine ⟨_, _, rfl, ⟨.inr ⟨w.heap.size, 0, rfl, by simp, fun i hi => ?_⟩⟩⟩
  have hb := Bk.new w cs T
  rw [Nat.zero_add]
  exact (hb.c i).trans (hc i hi)
theorem Sl9.lit (w : World) (ws : List Int) (T : TypeId) (n : Nat) (hn : ws.length = n) : Sl9 ws (.slice (some ⟨w.heap.size, 0, none⟩) n n) (w.alloc (.cells (ws.map fun x => Value.int .i64 x).toArray T)) :=
  Sl9.new w ws _ T n hn (fun i h => by simp [h])
theorem ex9_cells (p : Nat → Option Addr) (c : Nat → Nat) : ∀ m, m < 9 →
    (#[.slice (p 0) 0 (c 0), .int .i64 4, .slice (p 1) 65 (c 1), .int .i64 5, .slice (p 2) 2 (c 2), .int .i64 1, .slice (p 3) 1 (c 3), .int .i64 1, .slice (p 4) 2 (c 4), .int .i64 7, .slice (p 5) 64 (c 5), .int .i64 7, .slice (p 6) 1 (c 6), .int .i64 0, .slice (p 7) 2 (c 7), .int .i64 0, .slice (p 8) 2 (c 8), .int .i64 1] : Array Value)[m * 2]? = some (.slice (p m) (ws9 m).length (c m)) ∧
    (#[.slice (p 0) 0 (c 0), .int .i64 4, .slice (p 1) 65 (c 1), .int .i64 5, .slice (p 2) 2 (c 2), .int .i64 1, .slice (p 3) 1 (c 3), .int .i64 1, .slice (p 4) 2 (c 4), .int .i64 7, .slice (p 5) 64 (c 5), .int .i64 7, .slice (p 6) 1 (c 6), .int .i64 0, .slice (p 7) 2 (c 7), .int .i64 0, .slice (p 8) 2 (c 8), .int .i64 1] : Array Value)[m * 2 + 1]? = some (.int .i64 (er9 m))
  | 0, _ => ⟨rfl, rfl⟩
  | 1, _ => ⟨rfl, rfl⟩
  | 2, _ => ⟨rfl, rfl⟩
  | 3, _ => ⟨rfl, rfl⟩
  | 4, _ => ⟨rfl, rfl⟩
  | 5, _ => ⟨rfl, rfl⟩
  | 6, _ => ⟨rfl, rfl⟩
  | 7, _ => ⟨rfl, rfl⟩
  | 8, _ => ⟨rfl, rfl⟩
/-- the block of all of them, as it is laid -/
theorem Al9.lit (w : World) (T : TypeId) (p : Nat → Option Addr) (c : Nat → Nat) (hr : ∀ m, m < 9 → Ri w (p m) (ws9 m)) : Al9 (.slice (some ⟨w.heap.size, 0, none⟩) 9 9) (w.alloc (.cells #[.slice (p 0) 0 (c 0), .int .i64 4, .slice (p 1) 65 (c 1), .int .i64 5, .slice (p 2) 2 (c 2), .int .i64 1, .slice (p 3) 1 (c 3), .int .i64 1, .slice (p 4) 2 (c 4), .int .i64 7, .slice (p 5) 64 (c 5), .int .i64 7, .slice (p 6) 1 (c 6), .int .i64 0, .slice (p 7) 2 (c 7), .int .i64 0, .slice (p 8) 2 (c 8), .int .i64 1] T)) := by
  refine ⟨_, rfl, by simp, fun m hm => ⟨p m, c m, ?_, ?_, (hr m hm).nx ((Kp.refl w).al _)⟩⟩
  · exact ((Bk.new w _ T).c (m * 2)).trans (ex9_cells p c m hm).1
  · exact ((Bk.new w _ T).c (m * 2 + 1)).trans (ex9_cells p c m hm).2
/-- the second examples: weights, cuts, other places -/
def wt6 : Nat → List Int
  | 0 => [5]
  | 1 => [0, 0, 1]
  | 2 => [2, 2]
  | 3 => [1, 2, 3]
  | 4 => [4, 1, 1]
  | 5 => [0, 3, 3, 2]
  | _ => []
def ct6 : Nat → List Int
  | 0 => [5]
  | 1 => [0, 0, 1]
  | 2 => [4, 4]
  | 3 => [3, 6, 6]
  | 4 => [6, 3, 3]
  | 5 => [0, 8, 4, 0]
  | _ => []
def ot6 : Nat → List Int
  | 0 => [0]
  | 1 => [2, 2, 2]
  | 2 => [0, 1]
  | 3 => [2, 1, 2]
  | 4 => [0, 0, 0]
  | 5 => [3, 1, 1, 2]
  | _ => []
theorem tb6_len : ∀ m, m < 6 → (ct6 m).length = (wt6 m).length ∧ (ot6 m).length = (wt6 m).length ∧ 1 ≤ (wt6 m).length ∧ (wt6 m).length ≤ 64 ∧ 0 = whyW (wt6 m) ∧ up (wf (wt6 m)) (wt6 m).length ≠ 0 := by decide +kernel
theorem tb6_at : ∀ m, m < 6 → ∀ i, i < (wt6 m).length → (ct6 m)[i]? = some ((table (wt6 m).length (wf (wt6 m))).cu i) ∧ (ot6 m)[i]? = some ((table (wt6 m).length (wf (wt6 m))).ot i) := by decide +kernel
/-- they lie in one block, three slices each -/
def Al6 (b : Nat) (w : World) : Prop := b < w.heap.size ∧ ∀ m, m < 6 → ∃ p c q d r e, w.cell? ⟨b, m * 3, none⟩ = some (.slice p (wt6 m).length c) ∧ w.cell? ⟨b, m * 3 + 1, none⟩ = some (.slice q (wt6 m).length d) ∧ w.cell? ⟨b, m * 3 + 2, none⟩ = some (.slice r (wt6 m).length e) ∧ Ri w p (wt6 m) ∧ Ri w q (ct6 m) ∧ Ri w r (ot6 m)
theorem Al6.nx {b : Nat} {w w' : World} (h : Al6 b w) (hk : Kp w w') : Al6 b w' := by
  obtain ⟨h2, h3⟩ := h
  refine ⟨Nat.lt_of_lt_of_le h2 hk.size, fun m hm => ?_⟩
  obtain ⟨p, c, q, d, r, e, a1, a2, a3, a4, a5, a6⟩ := h3 m hm
  exact ⟨p, c, q, d, r, e, (Below.cell hk.below (p := ⟨b, m * 3, none⟩) h2).trans a1, (Below.cell hk.below (p := ⟨b, m * 3 + 1, none⟩) h2).trans a2, (Below.cell hk.below (p := ⟨b, m * 3 + 2, none⟩) h2).trans a3, a4.nx hk, a5.nx hk, a6.nx hk⟩
/-- many blocks, one behind the other -/
def lay (w : World) (l : List Obj) : World := l.foldl World.alloc w
theorem lay_size : ∀ (l : List Obj) (w : World), (lay w l).heap.size = w.heap.size + l.length
  | [], w => rfl
  | o :: l, w => by
    show (lay (w.alloc o) l).heap.size = _
    rw [lay_size l, World.size_alloc, List.length_cons]; omega
theorem lay_kp : ∀ (l : List Obj) (w : World), Kp w (lay w l)
  | [], w => Kp.refl w
  | o :: l, w => Kp.nx ((Kp.refl w).al o) (lay_kp l (w.alloc o))
theorem lay_get : ∀ (l : List Obj) (w : World) (k : Nat) (o : Obj), l[k]? = some o → (lay w l).heap[w.heap.size + k]? = some o
  | [], w, k, o, h => by cases h
  | o' :: l, w, 0, o, h => by
    simp at h; subst h
    have h1 : (w.alloc o').heap[w.heap.size]? = some o' := World.alloc_heap_new w o'
    exact ((lay_kp l (w.alloc o')).below.block w.heap.size (by rw [World.size_alloc]; omega)).trans h1
  | o' :: l, w, k + 1, o, h => by
    have h1 := lay_get l (w.alloc o') k o (by simpa using h)
    rw [World.size_alloc, show w.heap.size + 1 + k = w.heap.size + (k + 1) by omega] at h1
    exact h1
/-- the blocks of the second examples, one behind the other -/
def lit6 (n : Nat) (I6 TI T31 : TypeId) : List Obj := [.cells ((wt6 0).map fun x => Value.int .i64 x).toArray I6, .cells ((ct6 0).map fun x => Value.int .i64 x).toArray I6, .cells ((ot6 0).map fun x => Value.int .i64 x).toArray TI, .cells ((wt6 1).map fun x => Value.int .i64 x).toArray I6, .cells ((ct6 1).map fun x => Value.int .i64 x).toArray I6, .cells ((ot6 1).map fun x => Value.int .i64 x).toArray TI, .cells ((wt6 2).map fun x => Value.int .i64 x).toArray I6, .cells ((ct6 2).map fun x => Value.int .i64 x).toArray I6, .cells ((ot6 2).map fun x => Value.int .i64 x).toArray TI, .cells ((wt6 3).map fun x => Value.int .i64 x).toArray I6, .cells ((ct6 3).map fun x => Value.int .i64 x).toArray I6, .cells ((ot6 3).map fun x => Value.int .i64 x).toArray TI, .cells ((wt6 4).map fun x => Value.int .i64 x).toArray I6, .cells ((ct6 4).map fun x => Value.int .i64 x).toArray I6, .cells ((ot6 4).map fun x => Value.int .i64 x).toArray TI, .cells ((wt6 5).map fun x => Value.int .i64 x).toArray I6, .cells ((ct6 5).map fun x => Value.int .i64 x).toArray I6, .cells ((ot6 5).map fun x => Value.int .i64 x).toArray TI, .cells #[.slice (some ⟨n + 0, 0, none⟩) 1 1, .slice (some ⟨n + 1, 0, none⟩) 1 1, .slice (some ⟨n + 2, 0, none⟩) 1 1, .slice (some ⟨n + 3, 0, none⟩) 3 3, .slice (some ⟨n + 4, 0, none⟩) 3 3, .slice (some ⟨n + 5, 0, none⟩) 3 3, .slice (some ⟨n + 6, 0, none⟩) 2 2, .slice (some ⟨n + 7, 0, none⟩) 2 2, .slice (some ⟨n + 8, 0, none⟩) 2 2, .slice (some ⟨n + 9, 0, none⟩) 3 3, .slice (some ⟨n + 10, 0, none⟩) 3 3, .slice (some ⟨n + 11, 0, none⟩) 3 3, .slice (some ⟨n + 12, 0, none⟩) 3 3, .slice (some ⟨n + 13, 0, none⟩) 3 3, .slice (some ⟨n + 14, 0, none⟩) 3 3, .slice (some ⟨n + 15, 0, none⟩) 4 4, .slice (some ⟨n + 16, 0, none⟩) 4 4, .slice (some ⟨n + 17, 0, none⟩) 4 4] T31]
theorem Ri.lay {l : List Obj} (w : World) {k : Nat} {ws : List Int} {T : TypeId} (h : l[k]? = some (.cells (ws.map fun x => Value.int .i64 x).toArray T)) : Ri (lay w l) (some ⟨w.heap.size + k, 0, none⟩) ws := by
  have hb : Bk (AL.lay w l) (w.heap.size + k) (ws.map fun x => Value.int .i64 x).toArray T := lay_get l w k _ h
  refine ⟨.inr ⟨w.heap.size + k, 0, rfl, hb.lt, fun i hi => ?_⟩⟩
  rw [Nat.zero_add]
  exact (hb.c i).trans (by simp [hi])
theorem al6_lay (w : World) (I6 TI T31 : TypeId) : Al6 (w.heap.size + 18) (lay w (lit6 w.heap.size I6 TI T31)) := by
  have hb : Bk (AL.lay w (lit6 w.heap.size I6 TI T31)) (w.heap.size + 18) _ T31 := lay_get (lit6 w.heap.size I6 TI T31) w 18 _ rfl
  refine ⟨hb.lt, fun m hm => ?_⟩
  match m, hm with
  | 0, _ => exact ⟨_, _, _, _, _, _, (hb.c 0).trans rfl, (hb.c 1).trans rfl, (hb.c 2).trans rfl, Ri.lay w rfl, Ri.lay w rfl, Ri.lay w rfl⟩
  | 1, _ => exact ⟨_, _, _, _, _, _, (hb.c 3).trans rfl, (hb.c 4).trans rfl, (hb.c 5).trans rfl, Ri.lay w rfl, Ri.lay w rfl, Ri.lay w rfl⟩
  | 2, _ => exact ⟨_, _, _, _, _, _, (hb.c 6).trans rfl, (hb.c 7).trans rfl, (hb.c 8).trans rfl, Ri.lay w rfl, Ri.lay w rfl, Ri.lay w rfl⟩
  | 3, _ => exact ⟨_, _, _, _, _, _, (hb.c 9).trans rfl, (hb.c 10).trans rfl, (hb.c 11).trans rfl, Ri.lay w rfl, Ri.lay w rfl, Ri.lay w rfl⟩
  | 4, _ => exact ⟨_, _, _, _, _, _, (hb.c 12).trans rfl, (hb.c 13).trans rfl, (hb.c 14).trans rfl, Ri.lay w rfl, Ri.lay w rfl, Ri.lay w rfl⟩
  | 5, _ => exact ⟨_, _, _, _, _, _, (hb.c 15).trans rfl, (hb.c 16).trans rfl, (hb.c 17).trans rfl, Ri.lay w rfl, Ri.lay w rfl, Ri.lay w rfl⟩
end Go.Proofs.AL
