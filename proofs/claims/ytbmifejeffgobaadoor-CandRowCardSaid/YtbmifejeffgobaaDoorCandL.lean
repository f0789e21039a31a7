/- Lesser strings: the greatest one. No program in sight. -/
import Derived.Test.YtbmifejeffgobaaDoorCandK
namespace Go.Proofs.CT
open Go.RowKit
open Go.Proofs
open Go.Proofs.BT
open Go
set_option linter.unusedVariables false
set_option linter.unusedSimpArgs false
theorem cb_anti : ∀ {xs ys : List UInt8}, Lib.compareBytes xs ys = -1 → Lib.compareBytes ys xs = 1
  | [], [], h => by simp [Lib.compareBytes] at h
  | [], y :: ys, h => by simp [Lib.compareBytes]
  | x :: xs, [], h => by simp [Lib.compareBytes] at h
  | x :: xs, y :: ys, h => by
    rw [Lib.compareBytes] at h ⊢
    by_cases h1 : x < y
    · rw [if_neg (UInt8.not_lt.2 (UInt8.le_of_lt h1)), if_pos h1]
    · rw [if_neg h1] at h
      by_cases h2 : y < x
      · rw [if_pos h2] at h; simp at h
      · rw [if_neg h2] at h
        rw [if_neg h2, if_neg h1]; exact cb_anti h
theorem cmp_anti {a b : ByteArray} (h : cmpB a b = -1) : cmpB b a = 1 := by
  unfold cmpB at h ⊢
  by_cases h1 : a.size < b.size
  · rw [if_neg (by omega), if_pos h1]
  · rw [if_neg h1] at h
    by_cases h2 : b.size < a.size
    · rw [if_pos h2] at h; simp at h
    · rw [if_neg h2] at h
      rw [if_neg h2, if_neg h1]; exact cb_anti h
theorem bit_cases {b : UInt8} (h : bit1 b = true) : b = 48 ∨ b = 49 := by
  simpa [bit1] using h
theorem le2_49 : ∀ (l : List UInt8), l.all bit1 = true → le2 l (List.replicate l.length 49)
  | [], _ => trivial
  | x :: xs, h => by
    simp only [List.all_cons, Bool.and_eq_true] at h
    refine ⟨?_, le2_49 xs h.2⟩
    rcases bit_cases h.1 with rfl | rfl <;> decide
theorem cb_not48 : ∀ (l : List UInt8), l.all bit1 = true → ¬ Lib.compareBytes l (List.replicate l.length 48) = -1
  | [], _ => by simp [Lib.compareBytes]
  | x :: xs, h => by
    simp only [List.all_cons, Bool.and_eq_true] at h
    rw [List.length_cons, List.replicate_succ, Lib.compareBytes]
    rcases bit_cases h.1 with rfl | rfl
    · rw [if_neg (by decide), if_neg (by decide)]; exact cb_not48 xs h.2
    · rw [if_neg (by decide), if_pos (by decide)]; decide
/-- what is less than a 1 0..0 is a 0 1..1, or less than that -/
theorem cb_pred (m : Nat) : ∀ (a y : List UInt8), y.all bit1 = true → y.length = a.length + 1 + m → Lib.compareBytes y (a ++ 49 :: List.replicate m 48) = -1 →
    y = a ++ 48 :: List.replicate m 49 ∨ Lib.compareBytes y (a ++ 48 :: List.replicate m 49) = -1
  | [], y, hy, hl, h => by
    match y, hl with
    | [], hl => exact absurd hl (by simp only [List.length_nil, List.length_cons]; omega)
    | b :: ys, hl =>
      simp only [List.all_cons, Bool.and_eq_true] at hy
      have hm : ys.length = m := by simp at hl; omega
      rw [List.nil_append, Lib.compareBytes] at h
      rw [List.nil_append]
      rcases bit_cases hy.1 with rfl | rfl
      · have hle := le2_49 ys hy.2
        rw [hm] at hle
        by_cases e : ys = List.replicate m 49
        · exact .inl (by rw [e])
        · refine .inr ?_
          rw [Lib.compareBytes, if_neg (by decide), if_neg (by decide)]
          exact cb_lt hle e
      · rw [if_neg (by decide), if_neg (by decide), ← hm] at h
        exact absurd h (cb_not48 ys hy.2)
  | c :: a, y, hy, hl, h => by
    match y, hl with
    | [], hl => exact absurd hl (by simp only [List.length_nil, List.length_cons]; omega)
    | b :: ys, hl =>
      simp only [List.all_cons, Bool.and_eq_true] at hy
      have hm : ys.length = a.length + 1 + m := by simp at hl; omega
      rw [List.cons_append, Lib.compareBytes] at h
      rw [List.cons_append, Lib.compareBytes]
      by_cases h1 : b < c
      · exact .inr (by rw [if_pos h1])
      · rw [if_neg h1] at h
        by_cases h2 : c < b
        · rw [if_pos h2] at h; simp at h
        · rw [if_neg h2] at h
          have e : b = c := UInt8.le_antisymm (UInt8.not_lt.1 h2) (UInt8.not_lt.1 h1)
          subst e
          rw [if_neg h1, if_neg h1]
          rcases cb_pred m a ys hy.2 hm h with h3 | h3
          · exact .inl (by rw [h3])
          · exact .inr h3
theorem ones_none {u : ByteArray} : ∀ {n : Nat}, onesB u n = 0 → n ≤ u.size → ∀ j (h : j < u.size), j < n → u[j] ≠ 49
  | 0, _, _, j, _, hj => by omega
  | n + 1, h, hn, j, hj, hjn => by
    rw [onesB, dif_pos (by omega)] at h
    rcases Nat.lt_or_ge j n with h' | h'
    · exact ones_none (n := n) (by omega) (by omega) j hj h'
    · obtain rfl : j = n := by omega
      intro e; rw [if_pos e] at h; omega
/-- the last 1 -/
theorem last_one (u : ByteArray) : ∀ n, n ≤ u.size → onesB u n ≠ 0 → ∃ k, ∃ h : k < u.size, k < n ∧ u[k] = 49 ∧ ∀ j (h : j < u.size), k < j → j < n → u[j] ≠ 49
  | 0, _, h => absurd rfl h
  | n + 1, hn, h => by
    by_cases e : u[n]'(by omega) = 49
    · exact ⟨n, by omega, by omega, e, fun j _ h1 h2 => by omega⟩
    · rw [onesB, dif_pos (by omega), if_neg e, Nat.add_zero] at h
      obtain ⟨k, h1, h2, h3, h4⟩ := last_one u n (by omega) h
      refine ⟨k, h1, by omega, h3, fun j hj h5 h6 => ?_⟩
      rcases Nat.lt_or_ge j n with h' | h'
      · exact h4 j hj h5 h'
      · obtain rfl : j = n := by omega
        exact e
theorem tail_zeros {u : ByteArray} (hb : isB u = true) {k : Nat} (hk : k < u.size) (hz : ∀ j (h : j < u.size), k < j → u[j] ≠ 49) : (bl u).drop (k + 1) = List.replicate (u.size - k - 1) 48 := by
  refine List.eq_replicate_iff.2 ⟨by rw [List.length_drop, bl_size]; omega, fun b hbm => ?_⟩
  obtain ⟨i, hi, rfl⟩ := List.getElem_of_mem hbm
  rw [List.length_drop, bl_size] at hi
  rw [List.getElem_drop]
  have hj : k + 1 + i < u.size := by omega
  have h1 := bits_all (isB_bits hb) (k + 1 + i) hj
  rcases bit_cases h1 with h | h
  · rw [bl_get] at h; exact h
  · exact absurd h (hz _ hj (by omega))
/-- of a string with a 1 the greatest lesser one -/
theorem cands_pred {u : ByteArray} (hb : isB u = true) {k : Nat} (hk : k < u.size) (h49 : u[k] = 49) (hz : ∀ j (h : j < u.size), k < j → u[j] ≠ 49) :
    downB u k ∈ cands u ∧ ∀ y ∈ cands u, y = downB u k ∨ cmpB y (downB u k) = -1 := by
  refine ⟨down_in hb hk h49, fun y hy => ?_⟩
  have hl := cands_less hy
  have hds := down_size hk
  by_cases hs : y.size < u.size
  · refine .inr ?_
    rw [cmpB, if_pos (by omega)]
  · have hse : y.size = u.size := by have := hl.size; omega
    have hc := hl.cmp
    rw [cmpB, if_neg (by omega), if_neg (by omega)] at hc
    have e := bl_at u k hk
    rw [h49, tail_zeros hb hk hz] at e
    have hlen : ((bl u).take k).length = k := by rw [List.length_take, bl_size]; omega
    have hcc : Lib.compareBytes (bl y) ((bl u).take k ++ 49 :: List.replicate (u.size - k - 1) 48) = -1 := by rw [← e]; exact hc
    rcases cb_pred (u.size - k - 1) ((bl u).take k) (bl y) (isB_bits hl.is) (by rw [bl_size, hlen]; omega) hcc with h | h
    · exact .inl (bl_ext (by rw [h, bl_down]))
    · refine .inr ?_
      rw [cmpB, if_neg (by omega), if_neg (by omega)]
      rw [← bl_down] at h; exact h
theorem down_get {u : ByteArray} {k : Nat} (hk : k < u.size) : ∀ j (h : j < (downB u k).size), (j = k → (downB u k)[j] = 48) ∧ (k < j → (downB u k)[j] = 49) := by
  intro j h
  have hlen : ((bl u).take k).length = k := by rw [List.length_take, bl_size]; omega
  have hg : (bl (downB u k))[j]? = some (downB u k)[j] := by
    rw [bl_get _ _ h]; exact List.getElem?_eq_getElem _
  have hb := bl_down u k
  constructor
  · rintro rfl
    rw [hb, List.getElem?_append_right (by omega), hlen, Nat.sub_self] at hg
    simpa using hg.symm
  · intro hj
    rw [hb, List.getElem?_append_right (by omega), hlen] at hg
    obtain ⟨d, hd⟩ : ∃ d, j - k = d + 1 := ⟨j - k - 1, by omega⟩
    rw [hd, List.getElem?_cons_succ] at hg
    have hs := down_size hk
    rw [List.getElem?_replicate, if_pos (by omega)] at hg
    simpa using hg.symm
/-- Next of the greatest lesser one -/
theorem up_down {u : ByteArray} (hb : isB u = true) {k : Nat} (hk : k < u.size) (h49 : u[k] = 49) (hz : ∀ j (h : j < u.size), k < j → u[j] ≠ 49) : upB (downB u k) k = u := by
  apply bl_ext
  have hlen : ((bl u).take k).length = k := by rw [List.length_take, bl_size]; omega
  have e := bl_at u k hk
  rw [h49, tail_zeros hb hk hz] at e
  rw [upB, bl_app, bl_app, bl_sub, bl_rep, down_size hk, List.drop_zero, Nat.sub_zero, bl_down, List.take_append_of_le_length (by omega), List.take_of_length_le (l := (bl u).take k) (by omega), List.append_assoc]
  exact e.symm
theorem next_pred {u : ByteArray} (hb : isB u = true) {k : Nat} (hk : k < u.size) (h49 : u[k] = 49) (hz : ∀ j (h : j < u.size), k < j → u[j] ≠ 49) :
    Ret 18 #[.string (downB u k)] (.tuple #[.string u, .bool true]) := by
  have hs := isB_size hb
  have hds := down_size hk
  have := fun w => next1_up (downB u k) w (by omega) (less_down hb hk h49).is k (by omega) ((down_get hk k (by omega)).1 rfl) (fun j hj h => by rw [(down_get hk j hj).2 h]; decide)
  rw [up_down hb hk h49 hz] at this
  exact this
/-- where there is no 1 -/
theorem cands_zero {u : ByteArray} (hb : isB u = true) (hz : ∀ j (h : j < u.size), u[j] ≠ 49) {y : ByteArray} (hy : y ∈ cands u) : y.size < u.size := by
  rw [cands, if_pos hb, List.mem_append, List.mem_append] at hy
  have rep : ∀ i n, i + n ≤ u.size → clearB u i n = u := fun i n h => by
    have e : bl u = List.replicate u.size 48 := by
      refine List.eq_replicate_iff.2 ⟨bl_size u, fun b hbm => ?_⟩
      obtain ⟨j, hj, rfl⟩ := List.getElem_of_mem hbm
      rw [bl_size] at hj
      rcases bit_cases (bits_all (isB_bits hb) j hj) with h' | h'
      · rw [bl_get] at h'; exact h'
      · exact absurd h' (hz j hj)
    apply bl_ext
    rw [bl_clear, e, List.take_replicate, List.drop_replicate, List.replicate_append_replicate, List.replicate_append_replicate]
    congr 1; omega
  rcases hy with hy | hy | hy
  · obtain ⟨i, n, h1, h2, rfl, h4⟩ := partJ_mem hy
    rw [← bl_size, bl_cut, List.length_append, List.length_take, List.length_drop, bl_size]; omega
  · obtain ⟨i, n, h1, h2, rfl, h4⟩ := partJ_mem hy
    exact absurd (rep i n h2) h4
  · obtain ⟨i, h1, h2, rfl⟩ := downs_mem hy
    exact absurd h2 (hz i h1)
/-- the greatest of the first i -/
structure Best (L : List ByteArray) (i : Nat) (b : ByteArray) : Prop where
  mem : b ∈ L.take i
  size : ∀ y ∈ L.take i, y.size ≤ b.size
  top : ∀ p, (∀ y ∈ L, y = p ∨ cmpB y p = -1) → p ∈ L.take i → b = p
theorem mem_take {L : List ByteArray} {i : Nat} {y : ByteArray} (h : y ∈ L.take i) : y ∈ L := List.mem_of_mem_take h
theorem take_more {L : List ByteArray} {i : Nat} {x : ByteArray} (hx : L[i]? = some x) : L.take (i + 1) = L.take i ++ [x] := by
  obtain ⟨h, rfl⟩ := List.getElem?_eq_some_iff.1 hx
  rw [List.take_succ_eq_append_getElem h]
theorem Best.first {L : List ByteArray} {x : ByteArray} (hx : L[0]? = some x) : Best L 1 x := by
  have e := take_more hx
  rw [List.take_zero, List.nil_append] at e
  refine ⟨?_, fun y hy => ?_, fun p _ hp => ?_⟩
  · rw [e]; simp
  · rw [e] at hy; rw [List.mem_singleton.1 hy]; exact Nat.le_refl _
  · rw [e] at hp; exact (List.mem_singleton.1 hp).symm
theorem Best.new {L : List ByteArray} {i : Nat} {b x : ByteArray} (h : Best L i b) (hx : L[i]? = some x) (hc : cmpB b x = -1) : Best L (i + 1) x := by
  have e := take_more hx
  have hs : b.size ≤ x.size := by
    rcases Nat.lt_or_ge x.size b.size with h' | h'
    · rw [cmpB, if_neg (by omega), if_pos h'] at hc; simp at hc
    · exact h'
  refine ⟨by rw [e]; simp, fun y hy => ?_, fun p hp hm => ?_⟩
  · rw [e, List.mem_append] at hy
    rcases hy with hy | hy
    · exact Nat.le_trans (h.size y hy) hs
    · rw [List.mem_singleton.1 hy]; exact Nat.le_refl _
  · rw [e, List.mem_append] at hm
    rcases hm with hm | hm
    · have hb := h.top p hp hm
      subst hb
      have hxm : x ∈ L := by obtain ⟨h', rfl⟩ := List.getElem?_eq_some_iff.1 hx; exact List.getElem_mem _
      rcases hp x hxm with h1 | h1
      · exact h1
      · have := cmp_anti h1; rw [hc] at this; simp at this
    · exact (List.mem_singleton.1 hm).symm
theorem Best.keep {L : List ByteArray} {i : Nat} {b x : ByteArray} (h : Best L i b) (hx : L[i]? = some x) (hc : ¬ cmpB b x = -1) : Best L (i + 1) b := by
  have e := take_more hx
  refine ⟨by rw [e]; exact List.mem_append_left _ h.mem, fun y hy => ?_, fun p hp hm => ?_⟩
  · rw [e, List.mem_append] at hy
    rcases hy with hy | hy
    · exact h.size y hy
    · rw [List.mem_singleton.1 hy]
      rcases Nat.lt_or_ge b.size x.size with h' | h'
      · exact absurd (by rw [cmpB, if_pos h']) hc
      · exact h'
  · rw [e, List.mem_append] at hm
    rcases hm with hm | hm
    · exact h.top p hp hm
    · obtain rfl := List.mem_singleton.1 hm
      rcases hp b (mem_take h.mem) with h1 | h1
      · exact h1
      · exact absurd h1 hc
theorem cmp_three (a b : ByteArray) : cmpB a b = -1 ∨ 0 ≤ cmpB a b := by
  have : ∀ xs ys, Lib.compareBytes xs ys = -1 ∨ 0 ≤ Lib.compareBytes xs ys := by
    intro xs
    induction xs with
    | nil => intro ys; cases ys <;> simp [Lib.compareBytes]
    | cons x xs ih =>
      intro ys
      cases ys with
      | nil => simp [Lib.compareBytes]
      | cons y ys =>
        rw [Lib.compareBytes]
        split
        · exact .inl rfl
        · split
          · exact .inr (by decide)
          · exact ih ys
  unfold cmpB
  split
  · exact .inl rfl
  · split
    · exact .inr (by decide)
    · exact this _ _
end Go.Proofs.CT
