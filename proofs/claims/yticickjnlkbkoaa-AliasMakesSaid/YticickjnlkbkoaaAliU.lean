/- Five rows of numbers that a call owns, each in a block of its own. No program in sight, but for two types' numbers. -/
import Derived.Test.YticickjnlkbkoaaAliO
namespace Go.Proofs.AL
open Go.RowKit
open Go.Proofs
open Go.Proofs.NP
open Go.Proofs.SL
open Go.Proofs.RA
open Go
set_option linter.unusedVariables false
set_option linter.unusedSimpArgs false
structure Rw where
  a : Option Addr
  cap : Nat
  xs : List Int
/-- cuts, others, heights, low, high -/
def ty5 : Fin 5 → TypeId
  | 0 => 2
  | 1 => 3
  | 2 => 2
  | 3 => 3
  | 4 => 3
def five (a b c d e : Rw) : Fin 5 → Rw
  | 0 => a
  | 1 => b
  | 2 => c
  | 3 => d
  | 4 => e
def up5 (f : Fin 5 → Rw) (r : Fin 5) (x : Rw) : Fin 5 → Rw := fun q => if q = r then x else f q
theorem up5_eq (f : Fin 5 → Rw) (r : Fin 5) (x : Rw) : up5 f r x r = x := by simp [up5]
theorem up5_ne (f : Fin 5 → Rw) {r q : Fin 5} (x : Rw) (h : q ≠ r) : up5 f r x q = f q := by simp [up5, h]
theorem up5_0 (a b c d e x : Rw) : up5 (five a b c d e) 0 x = five x b c d e := by funext q; match q with | 0 => rfl | 1 => rfl | 2 => rfl | 3 => rfl | 4 => rfl
theorem up5_1 (a b c d e x : Rw) : up5 (five a b c d e) 1 x = five a x c d e := by funext q; match q with | 0 => rfl | 1 => rfl | 2 => rfl | 3 => rfl | 4 => rfl
theorem up5_2 (a b c d e x : Rw) : up5 (five a b c d e) 2 x = five a b x d e := by funext q; match q with | 0 => rfl | 1 => rfl | 2 => rfl | 3 => rfl | 4 => rfl
theorem up5_3 (a b c d e x : Rw) : up5 (five a b c d e) 3 x = five a b c x e := by funext q; match q with | 0 => rfl | 1 => rfl | 2 => rfl | 3 => rfl | 4 => rfl
theorem up5_4 (a b c d e x : Rw) : up5 (five a b c d e) 4 x = five a b c d x := by funext q; match q with | 0 => rfl | 1 => rfl | 2 => rfl | 3 => rfl | 4 => rfl
structure Fv (B : Nat) (W : World) (f : Fin 5 → Rw) : Prop where
  own : ∀ r, Oi (ty5 r) B W (f r).a (f r).cap (f r).xs
  ne : ∀ r q, r ≠ q → ∀ k, blkO (f r).a = some k → blkO (f q).a ≠ some k
variable {B : Nat} {W W' : World} {f : Fin 5 → Rw}
theorem Fv.start (B : Nat) (W : World) : Fv B W (five ⟨none, 0, []⟩ ⟨none, 0, []⟩ ⟨none, 0, []⟩ ⟨none, 0, []⟩ ⟨none, 0, []⟩) :=
  ⟨fun r => match r with | 0 => Oi.nil _ _ _ | 1 => Oi.nil _ _ _ | 2 => Oi.nil _ _ _ | 3 => Oi.nil _ _ _ | 4 => Oi.nil _ _ _, fun r q _ k h => match r, h with | 0, h => by cases h | 1, h => by cases h | 2, h => by cases h | 3, h => by cases h | 4, h => by cases h⟩
theorem Fv.nx (h : Fv B W f) (hk : Kp W W') : Fv B W' f := ⟨fun r => (h.own r).nx hk, h.ne⟩
theorem blkO_some {a : Option Addr} {g : Nat} (h : a = some ⟨g, 0, none⟩) : blkO a = some g := by rw [h]; rfl
theorem Fv.far {g : Nat} (h : Fv B W f) (hg : W.grownBy W' (some g)) (hB : g < B) : Fv B W' f :=
  ⟨fun r => (h.own r).kept hg (fun k hk e => by have := (h.own r).blk_ge k (blkO_some hk); cases e; omega), h.ne⟩
theorem Fv.app (h : Fv B W f) (r : Fin 5) {g c : Nat} {xs : List Int} (hO : Oi (ty5 r) B W' (some ⟨g, 0, none⟩) c xs) (hg : W.grownBy W' (blkO (f r).a)) (hn : blkO (f r).a = some g ∨ g = W.heap.size) : Fv B W' (up5 f r ⟨some ⟨g, 0, none⟩, c, xs⟩) := by
  refine ⟨fun q => ?_, fun p q hpq k hk => ?_⟩
  · by_cases e : q = r
    · subst e; rw [up5_eq]; exact hO
    · rw [up5_ne _ _ e]
      refine (h.own q).kept hg (fun k hk hb => ?_)
      exact h.ne q r e k (blkO_some hk) hb.symm
  · have key : ∀ q, q ≠ r → blkO (f q).a ≠ some g := fun q hq hb => by
      rcases hn with hn | hn
      · exact h.ne q r hq g hb hn
      · have := ((h.own q).blk_ge g hb).2; omega
    by_cases e : p = r
    · subst e
      rw [up5_eq] at hk
      rw [up5_ne _ _ (Ne.symm hpq)]
      have : g = k := by simpa [blkO] using hk
      subst this
      exact key q (Ne.symm hpq)
    · rw [up5_ne _ _ e] at hk
      by_cases e2 : q = r
      · subst e2
        rw [up5_eq]
        intro hb
        have : g = k := by simpa [blkO] using hb
        subst this
        exact key p e hk
      · rw [up5_ne _ _ e2]
        exact h.ne p q hpq k hk
theorem Fv.store (h : Fv B W f) (r : Fin 5) {g : Nat} (ha : (f r).a = some ⟨g, 0, none⟩) (j : Nat) (x : Int) : Fv B (W.setCell ⟨g, j, none⟩ (.int .i64 x)) (up5 f r ⟨(f r).a, (f r).cap, (f r).xs.set j x⟩) := by
  have hO := h.own r
  rw [ha] at hO ⊢
  have hs := hO.store j x
  exact h.app r hs.1 (by rw [blkO_some ha]; exact hs.2) (.inl (blkO_some ha))
theorem Fv.take (h : Fv B W f) (r : Fin 5) (n : Nat) (hn : n ≤ (f r).xs.length) : Fv B W (up5 f r ⟨(f r).a, (f r).cap, (f r).xs.take n⟩) := by
  refine ⟨fun q => ?_, fun p q hpq k hk => ?_⟩
  · by_cases e : q = r
    · subst e; rw [up5_eq]; exact (h.own q).take n hn
    · rw [up5_ne _ _ e]; exact h.own q
  · have key : ∀ q, (up5 f r ⟨(f r).a, (f r).cap, (f r).xs.take n⟩ q).a = (f q).a := fun q => by
      by_cases e : q = r
      · subst e; rw [up5_eq]
      · rw [up5_ne _ _ e]
    rw [key] at hk ⊢
    exact h.ne p q hpq k hk
/-- a block below them stays -/
theorem Fv.keep {g : Nat} {cs : Array Value} {T : TypeId} (h : Fv B W f) (r : Fin 5) (hg : W.grownBy W' (blkO (f r).a)) (hB : g < B) (hb : Bk W g cs T) : Bk W' g cs T :=
  (hg.block g hb.lt (fun e => by have := ((h.own r).blk_ge g e.symm).1; omega)).trans hb
theorem Fv.kp {w : World} (h : Fv B W f) (r : Fin 5) (hg : W.grownBy W' (blkO (f r).a)) (hB : w.heap.size ≤ B) (hk : Kp w W) : Kp w W' :=
  Kp.grown hk hg (fun k e => by have := ((h.own r).blk_ge k e).1; omega)
/-- a row's numbers -/
def rowL (n : Nat) (f : Nat → Int) : List Int := (List.range n).map f
theorem rowL_len (n : Nat) (f : Nat → Int) : (rowL n f).length = n := by simp [rowL]
theorem rowL_get (n : Nat) (f : Nat → Int) (i : Nat) (h : i < (rowL n f).length) : (rowL n f)[i] = f i := by simp [rowL]
theorem rowL_congr {n : Nat} {f g : Nat → Int} (h : ∀ x, x < n → f x = g x) : rowL n f = rowL n g := by
  unfold rowL
  exact List.map_congr_left (fun x hx => h x (by simpa using hx))
theorem rowL_snoc (m : Nat) (f : Nat → Int) (v : Int) : rowL m f ++ [v] = rowL (m + 1) (put f m v) := by
  have h : rowL m f = rowL m (put f m v) := rowL_congr (fun x hx => (put_ne _ _ (by omega)).symm)
  rw [h]
  simp [rowL, List.range_succ, put_eq]
theorem rowL_set (n : Nat) (f : Nat → Int) (l : Nat) (v : Int) : (rowL n f).set l v = rowL n (put f l v) := by
  apply List.ext_getElem
  · simp [rowL]
  · intro i h1 h2
    have hi : i < n := by simpa [rowL] using h2
    by_cases e : i = l
    · subst e
      simp [rowL, put_eq]
    · rw [List.getElem_set_ne (fun h => e h.symm)]
      simp [rowL, put_ne _ _ e]
/-- places as numbers -/
def nums (l : List Nat) : List Int := l.map fun x : Nat => (x : Int)
theorem nums_len (l : List Nat) : (nums l).length = l.length := by simp [nums]
theorem nums_app (l : List Nat) (x : Nat) : nums l ++ [(x : Int)] = nums (l ++ [x]) := by simp [nums]
theorem nums_get (l : List Nat) (i : Nat) (h : i < (nums l).length) : (nums l)[i] = ((l[i]'(by rw [nums_len] at h; exact h) : Nat) : Int) := by simp [nums]
theorem nums_take (l r : List Nat) : (nums (l ++ r)).take l.length = nums l := by simp [nums]
end Go.Proofs.AL
