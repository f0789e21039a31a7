/- Below: what BelowShares needs: a row of 64 numbers in one block; how many strings draw each number, try by try. -/
import Derived.Test.YticickjnlkbkoaaBelR
namespace Go.Proofs.BL
open Go.RowKit
open Go.Proofs
open Go.Proofs.NP
open Go.Proofs.BT
open Go.Proofs.RA
open Go.Proofs.SL
open Go
set_option linter.unusedVariables false
set_option linter.unusedSimpArgs false
theorem own_objf {β : Type} {B k : Nat} {o : β → Obj} (hk : k < B) : OwnFrom B (fun (s : β) W => W.heap[k]? = some (o s)) :=
  fun s A A' row hs hg hr => (hg.block k (Array.getElem?_eq_some_iff.1 hs).1 (fun e => by have := (hr k e.symm).1; omega)).trans hs
/-- a row of 64 numbers -/
def arr (f : Nat → Nat) : Array Value := ((List.range 64).map fun x => Value.int .i64 ((f x : Nat) : Int)).toArray
theorem arr_get (f : Nat → Nat) (x : Nat) (h : x < 64) : (arr f)[x]? = some (.int .i64 ((f x : Nat) : Int)) := by
  simp [arr, h]
theorem arr_set (f : Nat → Nat) (x v : Nat) (h : x < 64) : (arr f).setIfInBounds x (.int .i64 ((v : Nat) : Int)) = arr (fun y => if y = x then v else f y) := by
  apply Array.ext'
  apply List.ext_getElem?
  intro i
  simp only [arr, List.setIfInBounds_toArray, List.getElem?_set, List.length_map, List.length_range, List.getElem?_map]
  by_cases e : x = i
  · subst e
    rw [if_pos rfl, if_pos h]
    simp [h]
  · rw [if_neg e]
    by_cases hi : i < 64
    · simp [hi, show ¬ i = x from fun h => e h.symm]
    · simp [hi]
theorem arr_congr {f g : Nat → Nat} (h : ∀ x, x < 64 → f x = g x) : arr f = arr g := by
  unfold arr
  congr 1
  refine List.map_congr_left (fun x hx => ?_)
  rw [h x (by simpa using hx)]
theorem cnt_same {m x n : Nat} (hm : 0 < m) (hx : x < m) : cnt m x n = cnt m 0 n := by
  by_cases h0 : wid m = 0
  · have := wid_zero m hm h0
    rw [show x = 0 by omega]
  · induction n using Nat.strongRecOn with
    | ind n ih => ?_
    by_cases h : n < wid m
    · rw [cnt_short h, cnt_short h]
    · rw [cnt_long hm hx (by omega) (by omega), cnt_long hm hm (by omega) (by omega), ih (n - wid m) (by omega)]
theorem cnt_le (m x n : Nat) : cnt m x n ≤ 2 ^ n := by
  have := sum_le (fun i => hit x (dn m n i)) 1 (fun i => by unfold hit; split <;> omega) (2 ^ n)
  unfold cnt; omega
/-- so many tries in: what is counted, and how often all of them fail -/
structure Try9 (k b z t want fail : Nat) : Prop where
  pos : 1 ≤ t
  room : (t - 1) * b ≤ z
  sum : want + fail * cnt k 0 (z - (t - 1) * b) = cnt k 0 z
  le : fail ≤ 2 ^ ((t - 1) * b)
theorem Try9.start (k b z : Nat) : Try9 k b z 1 0 1 := ⟨Nat.le_refl _, by simp, by simp, by simp⟩
theorem Try9.want_le {k b z t want fail : Nat} (h : Try9 k b z t want fail) : want ≤ 2 ^ z := by
  have := h.sum; have := cnt_le k 0 z
  have : 0 ≤ fail * cnt k 0 (z - (t - 1) * b) := Nat.zero_le _
  omega
theorem Try9.fail_le {k b z t want fail : Nat} (h : Try9 k b z t want fail) : fail ≤ 2 ^ z := Nat.le_trans h.le (Nat.pow_le_pow_right (by decide) h.room)
theorem Try9.next {k b z t want fail : Nat} (hk : 0 < k) (hb : b = wid k) (hb0 : 0 < b) (h : Try9 k b z t want fail) (hp : t * b ≤ z) :
    Try9 k b z (t + 1) (want + fail * 2 ^ (z - t * b)) (fail * (2 ^ b - k)) ∧ fail * 2 ^ (z - t * b) ≤ 2 ^ z := by
  obtain ⟨h1, h2, h3, h4⟩ := h
  obtain ⟨s, rfl⟩ : ∃ s, t = s + 1 := ⟨t - 1, by omega⟩
  simp only [Nat.add_sub_cancel] at h2 h3 h4
  rw [Nat.succ_mul] at hp ⊢
  have e1 : cnt k 0 (z - s * b) = 2 ^ (z - (s * b + b)) + (2 ^ b - k) * cnt k 0 (z - (s * b + b)) := by
    have := cnt_long (m := k) (x := 0) (n := z - s * b) hk hk (by omega) (by omega)
    rw [← hb, Nat.sub_sub] at this
    exact this
  refine ⟨⟨by omega, by simp only [Nat.add_sub_cancel]; rw [Nat.succ_mul]; exact hp, ?_, ?_⟩, ?_⟩
  · simp only [Nat.add_sub_cancel]
    rw [Nat.succ_mul, ← h3, e1, Nat.mul_add, Nat.add_assoc, Nat.mul_assoc]
  · simp only [Nat.add_sub_cancel]
    rw [Nat.succ_mul, Nat.pow_add]
    exact Nat.mul_le_mul h4 (Nat.sub_le _ _)
  · calc fail * 2 ^ (z - (s * b + b)) ≤ 2 ^ (s * b) * 2 ^ (z - (s * b + b)) := Nat.mul_le_mul_right _ h4
      _ = 2 ^ (s * b + (z - (s * b + b))) := (Nat.pow_add _ _ _).symm
      _ ≤ 2 ^ z := Nat.pow_le_pow_right (by decide) (by omega)
/-- no room for one more try: all is counted -/
theorem Try9.done {k b z t want fail : Nat} (hb : b = wid k) (h : Try9 k b z t want fail) (hp : z < t * b) : want = cnt k 0 z := by
  obtain ⟨h1, h2, h3, h4⟩ := h
  obtain ⟨s, rfl⟩ : ∃ s, t = s + 1 := ⟨t - 1, by omega⟩
  simp only [Nat.add_sub_cancel] at h2 h3 h4
  rw [Nat.succ_mul] at hp
  rw [cnt_short (m := k) (x := 0) (n := z - s * b) (by omega), Nat.mul_zero, Nat.add_zero] at h3
  exact h3
theorem wid_6 {k : Nat} (h1 : 1 ≤ k) (h : k ≤ 64) : wid k ≤ 6 := by
  unfold wid
  rw [bitLen_le_iff]
  have : (2 : Nat) ^ 6 = 64 := rfl
  omega
/-- the counts so far -/
def cs9 (k z i x : Nat) : Nat := sum (fun j => hit x (dn k z j)) i
theorem cs9_zero (k z : Nat) : arr (cs9 k z 0) = arr (fun _ => 0) := rfl
theorem hit_yes (x y t : Nat) (ov : Bool) : hit y ⟨x, true, t, ov⟩ = if y = x then 1 else 0 := by
  unfold hit
  by_cases e : y = x
  · subst e; simp
  · simp [e, show ¬ x = y from fun h => e h.symm]
theorem hit_no (x y t : Nat) (ov : Bool) : hit y ⟨x, false, t, ov⟩ = 0 := by simp [hit]
theorem cs9_next_yes {k z i x t : Nat} {ov : Bool} (h : dn k z i = ⟨x, true, t, ov⟩) : arr (cs9 k z (i + 1)) = arr (fun y => if y = x then cs9 k z i x + 1 else cs9 k z i y) :=
  arr_congr (fun y _ => by
    show cs9 k z i y + hit y (dn k z i) = _
    rw [h, hit_yes]
    by_cases e : y = x
    · rw [if_pos e, if_pos e, e]
    · rw [if_neg e, if_neg e, Nat.add_zero])
theorem cs9_next_no {k z i x t : Nat} {ov : Bool} (h : dn k z i = ⟨x, false, t, ov⟩) : arr (cs9 k z (i + 1)) = arr (cs9 k z i) :=
  arr_congr (fun y _ => by
    show cs9 k z i y + hit y (dn k z i) = _
    rw [h, hit_no, Nat.add_zero])
theorem cs9_le (k z i x : Nat) : cs9 k z i x ≤ i := by
  have := sum_le (fun j => hit x (dn k z j)) 1 (fun i => by unfold hit; split <;> omega) i
  unfold cs9; omega
theorem cs9_end {k z x : Nat} (hk : 0 < k) (hx : x < k) : cs9 k z (2 ^ z) x = cnt k 0 z := cnt_same hk hx
end Go.Proofs.BL
