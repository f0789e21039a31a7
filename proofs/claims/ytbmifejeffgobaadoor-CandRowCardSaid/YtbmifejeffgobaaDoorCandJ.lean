/- Lesser strings: each is less. No program in sight. -/
import Derived.Test.YtbmifejeffgobaaDoorCandI
namespace Go.Proofs.CT
open Go.RowKit
open Go.Proofs
open Go.Proofs.BT
open Go
set_option linter.unusedVariables false
set_option linter.unusedSimpArgs false
/-- a text's bytes -/
def bl (s : ByteArray) : List UInt8 := s.data.toList
theorem bl_size (s : ByteArray) : (bl s).length = s.size := Array.length_toList
theorem bl_ext {s t : ByteArray} (h : bl s = bl t) : s = t := ByteArray.ext (Array.toList_inj.1 h)
theorem bl_app (s t : ByteArray) : bl (s ++ t) = bl s ++ bl t := by simp [bl, ByteArray.data_append]
theorem bl_sub (s : ByteArray) (i j : Nat) : bl (s.extract i j) = ((bl s).drop i).take (j - i) := by
  rw [bl, ByteArray.data_extract, Array.toList_extract]; rfl
theorem bl_rep (b : UInt8) (n : Nat) : bl (rep b n) = List.replicate n b := rfl
theorem bl_get (s : ByteArray) (i : Nat) (h : i < s.size) : s[i] = (bl s)[i]'(by rw [bl_size]; exact h) := rfl
theorem bl_cut (u : ByteArray) (a n : Nat) : bl (cutB u a n) = (bl u).take a ++ (bl u).drop (a + n) := by
  rw [cutB, bl_app, bl_sub, bl_sub, List.drop_zero, Nat.sub_zero, List.take_of_length_le (l := (bl u).drop (a + n)) (by rw [List.length_drop, bl_size]; omega)]
theorem bl_clear (u : ByteArray) (a n : Nat) : bl (clearB u a n) = (bl u).take a ++ (List.replicate n 48 ++ (bl u).drop (a + n)) := by
  rw [clearB, bl_app, bl_app, bl_sub, bl_sub, bl_rep, List.drop_zero, Nat.sub_zero, List.take_of_length_le (l := (bl u).drop (a + n)) (by rw [List.length_drop, bl_size]; omega), List.append_assoc]
theorem bl_down (u : ByteArray) (a : Nat) : bl (downB u a) = (bl u).take a ++ 48 :: List.replicate (u.size - a - 1) 49 := by
  rw [downB, bl_app, bl_app, bl_sub, bl_rep, List.drop_zero, Nat.sub_zero, List.append_assoc]; rfl
theorem bits_bl (u : ByteArray) : BT.bits u = (bl u).all bit1 := rfl
theorem all_take {l : List UInt8} (h : l.all bit1 = true) (n : Nat) : (l.take n).all bit1 = true := by
  rw [List.all_eq_true] at h ⊢; exact fun x hx => h x (List.mem_of_mem_take hx)
theorem all_drop {l : List UInt8} (h : l.all bit1 = true) (n : Nat) : (l.drop n).all bit1 = true := by
  rw [List.all_eq_true] at h ⊢; exact fun x hx => h x (List.mem_of_mem_drop hx)
theorem all_rep (n : Nat) (b : UInt8) (h : bit1 b = true) : (List.replicate n b).all bit1 = true := by
  rw [List.all_eq_true]; intro x hx; rw [(List.mem_replicate.1 hx).2]; exact h
theorem isB_mk {x : ByteArray} (h1 : x.size ≤ 1024) (h2 : (bl x).all bit1 = true) : isB x = true := by
  rw [isB, bits_bl, h2]; simp [h1]
/-- byte by byte not greater -/
def le2 : List UInt8 → List UInt8 → Prop
  | [], [] => True
  | x :: xs, y :: ys => x ≤ y ∧ le2 xs ys
  | _, _ => False
theorem le2_refl : ∀ l, le2 l l
  | [] => trivial
  | x :: xs => ⟨UInt8.le_refl x, le2_refl xs⟩
theorem le2_app : ∀ {a b c d : List UInt8}, le2 a b → le2 c d → le2 (a ++ c) (b ++ d)
  | [], [], _, _, _, h => h
  | x :: xs, y :: ys, _, _, h, k => ⟨h.1, le2_app h.2 k⟩
theorem le2_rep : ∀ (l : List UInt8), l.all bit1 = true → le2 (List.replicate l.length 48) l
  | [], _ => trivial
  | x :: xs, h => by
    simp only [List.all_cons, Bool.and_eq_true] at h
    refine ⟨?_, le2_rep xs h.2⟩
    have := h.1
    simp only [bit1, Bool.or_eq_true, beq_iff_eq] at this
    rcases this with rfl | rfl <;> decide
theorem cb_lt : ∀ {xs ys : List UInt8}, le2 xs ys → xs ≠ ys → Lib.compareBytes xs ys = -1
  | [], [], _, h => absurd rfl h
  | x :: xs, y :: ys, h, hne => by
    rw [Lib.compareBytes]
    by_cases h1 : x < y
    · rw [if_pos h1]
    · have e : x = y := UInt8.le_antisymm h.1 (UInt8.not_lt.1 h1)
      subst e
      rw [if_neg h1, if_neg h1]
      exact cb_lt h.2 (fun e => hne (by rw [e]))
theorem cb_pre (p : List UInt8) (r s : List UInt8) : Lib.compareBytes (p ++ 48 :: r) (p ++ 49 :: s) = -1 := by
  induction p with
  | nil => rfl
  | cons x p ih =>
    rw [List.cons_append, List.cons_append, Lib.compareBytes, if_neg (by simp), if_neg (by simp)]; exact ih
/-- a lesser string of u -/
structure Less (u x : ByteArray) : Prop where
  is : isB x = true
  cmp : cmpB x u = -1
  size : x.size ≤ u.size
theorem less_cut {u : ByteArray} (hb : isB u = true) {a n : Nat} (h1 : 1 ≤ n) (h2 : a + n ≤ u.size) : Less u (cutB u a n) := by
  have hs := isB_size hb
  have hal : (bl u).all bit1 = true := isB_bits hb
  have hz : (cutB u a n).size = u.size - n := by
    rw [← bl_size, bl_cut, List.length_append, List.length_take, List.length_drop, bl_size]; omega
  refine ⟨isB_mk (by omega) ?_, ?_, by omega⟩
  · rw [bl_cut, List.all_append, all_take hal, all_drop hal]; rfl
  · rw [cmpB, if_pos (by omega)]
theorem less_same {u x : ByteArray} (hz : x.size = u.size) (hi : isB x = true) (hc : Lib.compareBytes (bl x) (bl u) = -1) : Less u x :=
  ⟨hi, by rw [cmpB, if_neg (by omega), if_neg (by omega)]; exact hc, by omega⟩
theorem clear_size {u : ByteArray} {a n : Nat} (h2 : a + n ≤ u.size) : (clearB u a n).size = u.size := by
  rw [← bl_size, bl_clear, List.length_append, List.length_append, List.length_take, List.length_drop, List.length_replicate, bl_size]; omega
theorem less_clear {u : ByteArray} (hb : isB u = true) {a n : Nat} (h2 : a + n ≤ u.size) (hne : ¬ clearB u a n = u) : Less u (clearB u a n) := by
  have hs := isB_size hb
  have hal : (bl u).all bit1 = true := isB_bits hb
  have hz := clear_size h2
  refine less_same hz (isB_mk (by omega) ?_) (cb_lt ?_ (fun e => hne (bl_ext e)))
  · rw [bl_clear, List.all_append, List.all_append, all_take hal, all_drop hal, all_rep _ _ (by decide)]; rfl
  · rw [bl_clear]
    have e : bl u = (bl u).take a ++ (((bl u).drop a).take n ++ (bl u).drop (a + n)) := by
      rw [← List.drop_drop, List.take_append_drop, List.take_append_drop]
    have hl : (((bl u).drop a).take n).length = n := by rw [List.length_take, List.length_drop, bl_size]; omega
    have := le2_app (le2_refl ((bl u).take a)) (le2_app (le2_rep (((bl u).drop a).take n) (all_take (all_drop hal a) n)) (le2_refl ((bl u).drop (a + n))))
    rw [hl, ← e] at this
    exact this
theorem down_size {u : ByteArray} {a : Nat} (h : a < u.size) : (downB u a).size = u.size := by
  rw [← bl_size, bl_down, List.length_append, List.length_cons, List.length_take, List.length_replicate, bl_size]; omega
theorem bl_at (u : ByteArray) (a : Nat) (h : a < u.size) : bl u = (bl u).take a ++ u[a] :: (bl u).drop (a + 1) := by
  rw [bl_get u a h, ← List.drop_eq_getElem_cons (by rw [bl_size]; exact h), List.take_append_drop]
theorem less_down {u : ByteArray} (hb : isB u = true) {a : Nat} (h : a < u.size) (h49 : u[a] = 49) : Less u (downB u a) := by
  have hs := isB_size hb
  have hal : (bl u).all bit1 = true := isB_bits hb
  have hz := down_size h
  refine less_same hz (isB_mk (by omega) ?_) ?_
  · rw [bl_down, List.all_append, List.all_cons, all_take hal, all_rep _ _ (by decide)]; rfl
  · have e := bl_at u a h
    rw [h49] at e
    rw [bl_down]
    have := cb_pre ((bl u).take a) (List.replicate (u.size - a - 1) 49) ((bl u).drop (a + 1))
    rw [← e] at this
    exact this
theorem rem_mem {f : ByteArray → Nat → Nat → ByteArray} {u : ByteArray} {n : Nat} {x : ByteArray} : ∀ {c a : Nat}, x ∈ rem f u n a c → ∃ i, a ≤ i ∧ i < a + c ∧ x = f u i n ∧ ¬ f u i n = u
  | 0, a, h => by simp [rem] at h
  | c + 1, a, h => by
    rw [rem, List.mem_append] at h
    rcases h with h | h
    · by_cases e : f u a n = u
      · rw [if_pos e] at h; simp at h
      · rw [if_neg e] at h
        exact ⟨a, Nat.le_refl _, by omega, by simpa using h, e⟩
    · obtain ⟨i, h1, h2, h3, h4⟩ := rem_mem h
      exact ⟨i, by omega, by omega, h3, h4⟩
theorem partN_mem {f : ByteArray → Nat → Nat → ByteArray} {u : ByteArray} {n : Nat} {x : ByteArray} (h : x ∈ partN f u n) : ∃ i, i + n ≤ u.size ∧ x = f u i n ∧ ¬ f u i n = u := by
  obtain ⟨i, h1, h2, h3, h4⟩ := rem_mem h
  exact ⟨i, by omega, h3, h4⟩
theorem partJ_mem {f : ByteArray → Nat → Nat → ByteArray} {u : ByteArray} {x : ByteArray} (h : x ∈ partJ f u 0) : ∃ i n, 1 ≤ n ∧ i + n ≤ u.size ∧ x = f u i n ∧ ¬ f u i n = u := by
  simp only [partJ, List.mem_append] at h
  rcases h with h | h | h | h
  all_goals
    obtain ⟨i, h1, h2, h3⟩ := partN_mem h
    exact ⟨i, _, by decide, h1, h2, h3⟩
theorem downs_mem {u : ByteArray} {x : ByteArray} : ∀ {c a : Nat}, x ∈ downs u a c → ∃ i, ∃ h : i < u.size, u[i] = 49 ∧ x = downB u i
  | 0, a, h => by simp [downs] at h
  | c + 1, a, h => by
    rw [downs, List.mem_append] at h
    rcases h with h | h
    · by_cases e : a < u.size
      · rw [dif_pos e] at h
        by_cases e2 : u[a] = 49
        · rw [if_pos e2] at h; exact ⟨a, e, e2, by simpa using h⟩
        · rw [if_neg e2] at h; simp at h
      · rw [dif_neg e] at h; simp at h
    · exact downs_mem h
/-- each lesser string is less -/
theorem cands_less {u x : ByteArray} (h : x ∈ cands u) : Less u x := by
  unfold cands at h
  split at h
  · rename_i hb
    rw [List.mem_append, List.mem_append] at h
    rcases h with h | h | h
    · obtain ⟨i, n, h1, h2, rfl, h4⟩ := partJ_mem h; exact less_cut hb h1 h2
    · obtain ⟨i, n, h1, h2, rfl, h4⟩ := partJ_mem h; exact less_clear hb h2 h4
    · obtain ⟨i, h1, h2, rfl⟩ := downs_mem h; exact less_down hb h1 h2
  · simp at h
/-- how many 1s the first ones have -/
def onesB (u : ByteArray) : Nat → Nat
  | 0 => 0
  | i + 1 => onesB u i + (if h : i < u.size then (if u[i] = 49 then 1 else 0) else 0)
theorem onesB_le (u : ByteArray) : ∀ i, onesB u i ≤ i
  | 0 => Nat.le_refl _
  | i + 1 => by
    have := onesB_le u i
    rw [onesB]
    split
    · split <;> omega
    · omega
theorem downs_ones (u : ByteArray) : ∀ c a, (downs u a c).length + onesB u a = onesB u (a + c)
  | 0, a => by simp [downs]
  | c + 1, a => by
    have := downs_ones u c (a + 1)
    rw [downs, List.length_append, show a + (c + 1) = a + 1 + c by omega, ← this, onesB]
    split
    · split <;> simp <;> omega
    · simp
theorem cands_many (u : ByteArray) : (cands u).length ≤ 8 * u.size + onesB u u.size := by
  unfold cands
  split
  · have h1 := partJ_len cutB u
    have h2 := partJ_len clearB u
    have h3 := downs_ones u u.size 0
    rw [Nat.zero_add] at h3
    simp only [List.length_append, onesB] at *
    omega
  · simp
theorem rem_cut_len {u : ByteArray} {n : Nat} (h1 : 1 ≤ n) : ∀ c a, a + c + n ≤ u.size + 1 → (rem cutB u n a c).length = c
  | 0, a, _ => rfl
  | c + 1, a, h => by
    rw [rem, if_neg (cut_ne h1 (by omega)), List.length_append, rem_cut_len h1 c (a + 1) (by omega)]
    simp; omega
theorem cands_some (u : ByteArray) : (cands u ≠ []) ↔ (isB u = true ∧ 0 < u.size) := by
  constructor
  · intro h
    have hb : isB u = true := by
      cases hb : isB u with
      | true => rfl
      | false => exact absurd (by simp [cands, hb]) h
    refine ⟨hb, ?_⟩
    rcases Nat.eq_zero_or_pos u.size with h0 | h0
    · have := cands_nine u
      rw [h0] at this
      exact absurd (List.eq_nil_of_length_eq_zero (by omega)) h
    · exact h0
  · rintro ⟨hb, h0⟩ e
    have h1 : (rem cutB u 1 0 (u.size + 1 - 1)).length = u.size + 1 - 1 := rem_cut_len (by omega) _ _ (by omega)
    have h2 := congrArg List.length e
    rw [cands, if_pos hb] at h2
    simp only [partJ, partN, List.length_append, List.length_nil] at h2
    omega
/-- the cell of a text that is read -/
theorem Reads.get {W : World} {a : Option Addr} {cap n i : Nat} {L : List ByteArray} (h : Reads W (.slice a n cap) L) (hn : n = L.length) (hi : i < n) : ∃ x, (∃ b, a = some ⟨b, 0, none⟩ ∧ W.cell? ⟨b, i, none⟩ = some (.string x)) ∧ x ∈ L ∧ L[i]? = some x := by
  obtain ⟨_, a', cap', hv, h0 | ⟨b, ha, _, hc⟩⟩ := h
  · subst h0; simp at hn; omega
  · simp only [Value.slice.injEq] at hv
    obtain ⟨rfl, _, rfl⟩ := hv
    exact ⟨L[i], ⟨b, ha, hc i (by omega)⟩, List.getElem_mem _, List.getElem?_eq_getElem _⟩
theorem cell_hold {W W' : World} {ad : Addr} {v : Value} (hc : W.cell? ad = some v) (h : Below W.heap.size W W') : W'.cell? ad = some v := cell_kept hc (RO.grown_of_below h) (fun r e => by cases e)
theorem is_val (x : ByteArray) (z : Bool) (h : isB x = z) (hs : x.size ≤ 4294967296) : Ret 14 #[.string x] (.bool z) := by rw [← h]; exact (is_both x hs).1
theorem cmp_val (a b : ByteArray) (z : Int) (h : cmpB a b = z) (hs : a.size ≤ 4294967296) (hs2 : b.size ≤ 4294967296) : Ret 17 #[.string a, .string b] (.int .i64 z) := .of fun w => cmp1 a b w hs hs2 z h.symm
end Go.Proofs.CT
