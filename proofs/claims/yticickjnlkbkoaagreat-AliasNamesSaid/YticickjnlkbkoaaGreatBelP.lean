/- Below: plain: what is drawn below a number out of a string of bits. No program in sight. -/
import Derived.Test.YticickjnlkbkoaaGreatBitsF
import Derived.Test.YticickjnlkbkoaaGreatMN
namespace Go.Proofs.BL
open Go.RowKit
open Go.Proofs
open Go.Proofs.NP
open Go.Proofs.BT
open Go
set_option linter.unusedVariables false
set_option linter.unusedSimpArgs false
/-- a text's bit as a number -/
def bitA (s : ByteArray) (i : Nat) : Nat := if h : i < s.size then (if s[i] = 49 then 1 else 0) else 0
theorem bitA_le (s : ByteArray) (i : Nat) : bitA s i ≤ 1 := by
  unfold bitA
  split
  · split <;> omega
  · omega
/-- the number that so many bits are, from a place on -/
def numA (s : ByteArray) (a : Nat) : Nat → Nat
  | 0 => 0
  | i + 1 => 2 * numA s a i + bitA s (a + i)
theorem numA_lt (s : ByteArray) (a : Nat) : ∀ i, numA s a i < 2 ^ i
  | 0 => by simp [numA]
  | i + 1 => by
    have := numA_lt s a i
    have := bitA_le s (a + i)
    rw [numA, Nat.pow_succ]; omega
theorem numA_63 (s : ByteArray) (a i : Nat) (h : i ≤ 63) : numA s a i < 9223372036854775808 := by
  have h1 := numA_lt s a i
  have h2 : 2 ^ i ≤ 2 ^ 63 := Nat.pow_le_pow_right (by decide) h
  omega
theorem numA_64 (s : ByteArray) (a i : Nat) (h : i ≤ 64) : numA s a i < 18446744073709551616 := by
  have h1 := numA_lt s a i
  have h2 : 2 ^ i ≤ 2 ^ 64 := Nat.pow_le_pow_right (by decide) h
  omega
theorem numA_next {s : ByteArray} (h : BT.bits s = true) (a i : Nat) (hi : a + i < s.size) : (((s[a + i].toNat : Nat) : Int) = 48 ∧ numA s a (i + 1) = 2 * numA s a i) ∨ (((s[a + i].toNat : Nat) : Int) = 49 ∧ numA s a (i + 1) = 2 * numA s a i + 1) := by
  have hb := bits_all h (a + i) hi
  rcases bit1_cases s[a + i] with ⟨h1, _⟩ | ⟨h1, _⟩ | ⟨_, h2⟩
  · left; refine ⟨h1, ?_⟩
    have : s[a + i] ≠ 49 := by intro e; rw [e] at h1; exact absurd h1 (by decide)
    rw [numA, bitA, dif_pos hi, if_neg this, Nat.add_zero]
  · right; refine ⟨h1, ?_⟩
    have : s[a + i] = 49 := UInt8.toNat_inj.1 (by have : (49 : UInt8).toNat = 49 := rfl; omega)
    rw [numA, bitA, dif_pos hi, if_pos this]
  · rw [hb] at h2; cases h2
/-- it hangs on these bits alone -/
theorem numA_congr {s t : ByteArray} {a : Nat} : ∀ {n : Nat}, (∀ i, a ≤ i → i < a + n → bitA s i = bitA t i) → numA s a n = numA t a n
  | 0, _ => rfl
  | n + 1, h => by rw [numA, numA, numA_congr (fun i h1 h2 => h i h1 (by omega)), h (a + n) (by omega) (by omega)]
theorem bitA_ext (s : ByteArray) (a n i : Nat) (hn : a + n ≤ s.size) (hi : i < n) : bitA (s.extract a (a + n)) i = bitA s (a + i) := by
  have h1 : i < (s.extract a (a + n)).size := by rw [ByteArray.size_extract]; omega
  have h2 : a + i < s.size := by omega
  rw [bitA, bitA, dif_pos h1, dif_pos h2, ByteArray.getElem_extract]
theorem numB_ext (s : ByteArray) (a n : Nat) (hn : a + n ≤ s.size) : ∀ k, k ≤ n → numB (s.extract a (a + n)) k = numA s a k
  | 0, _ => rfl
  | k + 1, hk => by
    have := bitA_ext s a n k hn (by omega)
    rw [numB, numA, numB_ext s a n hn k (by omega), ← this]; rfl
/-- how many bits a number below one has -/
def wid (m : Nat) : Nat := bitLen (m - 1)
theorem wid_le (m : Nat) (h : m < 18446744073709551616) : wid m ≤ 64 := by
  unfold wid
  rw [bitLen_le_iff]
  have : (2 : Nat) ^ 64 = 18446744073709551616 := by decide
  omega
theorem lt_wid (m : Nat) (h : 0 < m) : m ≤ 2 ^ wid m := by
  have := (bitLen_le_iff (m - 1) (wid m)).1 (Nat.le_refl _)
  omega
theorem wid_zero (m : Nat) (h : 0 < m) (h0 : wid m = 0) : m = 1 := by
  have := lt_wid m h
  rw [h0] at this; omega
/-- what is drawn: the number, whether there is one, how many bits are read then, whether it is over -/
structure Dr where
  x : Nat
  is : Bool
  at' : Nat
  ov : Bool
deriving DecidableEq
def drw (s : ByteArray) (m : Nat) : Nat → Nat → Dr
  | 0, a => ⟨0, false, a, true⟩
  | f + 1, a => if s.size < a + wid m then ⟨0, false, a, true⟩ else if numA s a (wid m) < m then ⟨numA s a (wid m), true, a + wid m, false⟩ else drw s m f (a + wid m)
def draw (s : ByteArray) (m a : Nat) (ov : Bool) : Dr := if m = 0 ∨ ov = true then ⟨0, false, a, ov⟩ else drw s m (s.size - a + 1) a
theorem drw_le {s : ByteArray} {m : Nat} : ∀ {f a : Nat}, a ≤ s.size → a ≤ (drw s m f a).at' ∧ (drw s m f a).at' ≤ s.size
  | 0, a, h => ⟨Nat.le_refl _, h⟩
  | f + 1, a, h => by
    rw [drw]
    split
    · exact ⟨Nat.le_refl _, h⟩
    · split
      · exact ⟨by simp, by simp; omega⟩
      · have := drw_le (s := s) (m := m) (f := f) (a := a + wid m) (by omega)
        omega
theorem drw_is {s : ByteArray} {m : Nat} : ∀ {f a : Nat}, (drw s m f a).is = !(drw s m f a).ov ∧ ((drw s m f a).is = true → (drw s m f a).x < m) ∧ ((drw s m f a).is = false → (drw s m f a).x = 0)
  | 0, a => by simp [drw]
  | f + 1, a => by
    rw [drw]
    split
    · simp
    · split
      · rename_i h; simp [h]
      · exact drw_is
theorem drw_more {s : ByteArray} {m : Nat} (hm : 0 < m) : ∀ {f g a : Nat}, s.size < a + f → s.size < a + g → drw s m f a = drw s m g a
  | 0, 0, a, _, _ => rfl
  | 0, g + 1, a, h1, _ => by rw [drw, drw, if_pos (by omega)]
  | f + 1, 0, a, _, h2 => by rw [drw, drw, if_pos (by omega)]
  | f + 1, g + 1, a, h1, h2 => by
    rw [drw, drw]
    split
    · rfl
    · split
      · rfl
      · rename_i h3 h4
        have h5 : 0 < wid m := by
          rcases Nat.eq_zero_or_pos (wid m) with h | h
          · have := wid_zero m hm h
            rw [h, numA] at h4; omega
          · exact h
        exact drw_more hm (by omega) (by omega)
/-- what was drawn is drawn out of any text that begins so -/
theorem drw_front {s t : ByteArray} {m : Nat} (hm : 0 < m) : ∀ {f g a : Nat}, (drw s m f a).is = true → (drw s m f a).at' ≤ t.size → (∀ i, i < (drw s m f a).at' → bitA s i = bitA t i) → t.size < a + g → a ≤ t.size → drw t m g a = drw s m f a
  | 0, g, a, h, _, _, _, _ => by simp [drw] at h
  | f + 1, 0, a, h, h1, h2, h3, h4 => by omega
  | f + 1, g + 1, a, h, h1, h2, h3, h4 => by
    rw [drw] at h h1 h2 ⊢
    rw [drw]
    by_cases c1 : s.size < a + wid m
    · rw [if_pos c1] at h; simp at h
    · rw [if_neg c1] at h h1 h2 ⊢
      by_cases c2 : numA s a (wid m) < m
      · rw [if_pos c2] at h h1 h2 ⊢
        have e : numA t a (wid m) = numA s a (wid m) := numA_congr (fun i _ hi => (h2 i hi).symm)
        simp only at h1
        rw [if_neg (by omega), e, if_pos c2]
      · rw [if_neg c2] at h h1 h2 ⊢
        have hw : 0 < wid m := by
          rcases Nat.eq_zero_or_pos (wid m) with h | h
          · have := wid_zero m hm h
            rw [h, numA] at c2; omega
          · exact h
        have hle := (drw_le (s := s) (m := m) (f := f) (a := a + wid m) (by omega)).1
        have e : numA t a (wid m) = numA s a (wid m) := numA_congr (fun i _ hi => (h2 i (by omega)).symm)
        rw [if_neg (by omega), e, if_neg c2]
        exact drw_front hm h h1 h2 (by omega) (by omega)
/-- with fewer bits there is none -/
theorem drw_fewer {s t : ByteArray} {m : Nat} : ∀ {f g a : Nat}, (drw s m f a).is = true → t.size < (drw s m f a).at' → (∀ i, i < t.size → bitA s i = bitA t i) → (drw t m g a).is = false
  | 0, g, a, h, _, _ => by simp [drw] at h
  | f + 1, 0, a, h, _, _ => rfl
  | f + 1, g + 1, a, h, h1, h2 => by
    rw [drw] at h h1
    rw [drw]
    by_cases c0 : t.size < a + wid m
    · rw [if_pos c0]
    rw [if_neg c0]
    have e : numA t a (wid m) = numA s a (wid m) := numA_congr (fun i _ hi => (h2 i (by omega)).symm)
    by_cases c1 : s.size < a + wid m
    · rw [if_pos c1] at h; simp at h
    · rw [if_neg c1] at h h1
      by_cases c2 : numA s a (wid m) < m
      · rw [if_pos c2] at h h1
        simp only at h1; omega
      · rw [if_neg c2] at h h1
        rw [e, if_neg c2]
        exact drw_fewer h h1 h2
theorem isB_le {s : ByteArray} (h : isB s = true) : s.size ≤ 1024 := by unfold isB at h; simp at h; exact h.1
theorem isB_mk {s : ByteArray} (h : BT.bits s = true) (hs : s.size ≤ 1024) : isB s = true := by unfold isB; rw [h]; simp [hs]
theorem bits_ext {s : ByteArray} (h : BT.bits s = true) (a b : Nat) : BT.bits (s.extract a b) = true := bits_of _ (fun j hj => by
  rw [ByteArray.getElem_extract]; exact bits_all h _ (by rw [ByteArray.size_extract] at hj; omega))
theorem bits_app {s t : ByteArray} (h : BT.bits s = true) (k : BT.bits t = true) : BT.bits (s ++ t) = true := bits_of _ (fun j hj => by
  by_cases hl : j < s.size
  · rw [ByteArray.getElem_append_left hl]; exact bits_all h _ _
  · rw [ByteArray.getElem_append_right (by omega)]; exact bits_all k _ _)
theorem bitA_take (s : ByteArray) (n i : Nat) (hn : n ≤ s.size) (hi : i < n) : bitA (s.extract 0 n) i = bitA s i := by
  have := bitA_ext s 0 n i (by omega) hi
  simpa using this
theorem bitA_app (s t : ByteArray) (i : Nat) (hi : i < s.size) : bitA (s ++ t) i = bitA s i := by
  have h1 : i < (s ++ t).size := by rw [ByteArray.size_append]; omega
  rw [bitA, bitA, dif_pos h1, dif_pos hi, ByteArray.getElem_append_left hi]
/-- what is drawn by a text -/
def byD (s : ByteArray) (m : Nat) : Dr := if isB s = true then draw s m 0 false else ⟨0, false, 0, false⟩
theorem byD_at (s : ByteArray) (m : Nat) : (byD s m).at' ≤ s.size ∧ ((byD s m).is = false → (byD s m).x = 0) := by
  unfold byD
  split
  · unfold draw
    split
    · exact ⟨Nat.zero_le _, fun _ => rfl⟩
    · exact ⟨(drw_le (Nat.zero_le _)).2, drw_is.2.2⟩
  · exact ⟨Nat.zero_le _, fun _ => rfl⟩
theorem byD_front {s t : ByteArray} {m : Nat} (hs : isB s = true) (ht : BT.bits t = true) (hl : s.size + t.size ≤ 1024) (h : (byD s m).is = true) : byD (s.extract 0 (byD s m).at' ++ t) m = byD s m := by
  have hle := (byD_at s m).1
  obtain ⟨n, hn⟩ : ∃ n, n = (byD s m).at' := ⟨_, rfl⟩
  rw [← hn] at hle ⊢
  have hsz : (s.extract 0 n ++ t).size = n + t.size := by rw [ByteArray.size_append, ByteArray.size_extract]; omega
  have hb : isB (s.extract 0 n ++ t) = true := isB_mk (bits_app (bits_ext (isB_bits hs) 0 n) ht) (by omega)
  have e1 : byD s m = draw s m 0 false := by rw [byD, if_pos hs]
  have e2 : byD (s.extract 0 n ++ t) m = draw (s.extract 0 n ++ t) m 0 false := by rw [byD, if_pos hb]
  rw [e1] at h hn ⊢
  rw [e2]
  unfold draw at h hn ⊢
  by_cases h0 : m = 0 ∨ false = true
  · rw [if_pos h0] at h; simp at h
  · rw [if_neg h0] at h hn ⊢
    rw [if_neg h0]
    refine drw_front (by omega) h (by omega) (fun i hi => ?_) (by omega) (Nat.zero_le _)
    rw [bitA_app _ _ _ (by rw [ByteArray.size_extract]; omega), bitA_take s n i hle (by omega)]
theorem byD_fewer {s : ByteArray} {m c : Nat} (hs : isB s = true) (h : (byD s m).is = true) (hc : c < (byD s m).at') : (byD (s.extract 0 c) m).is = false := by
  have hle := (byD_at s m).1
  have hsz : (s.extract 0 c).size = c := by rw [ByteArray.size_extract]; omega
  have hb : isB (s.extract 0 c) = true := isB_mk (bits_ext (isB_bits hs) 0 c) (by have := isB_le hs; omega)
  have e1 : byD s m = draw s m 0 false := by rw [byD, if_pos hs]
  have e2 : byD (s.extract 0 c) m = draw (s.extract 0 c) m 0 false := by rw [byD, if_pos hb]
  rw [e1] at h hc
  rw [e2]
  unfold draw at h hc ⊢
  by_cases h0 : m = 0 ∨ false = true
  · rw [if_pos h0] at h; simp at h
  · rw [if_neg h0] at h hc
    rw [if_neg h0]
    exact drw_fewer h (by omega) (fun i hi => (bitA_take s c i (by have := hle; rw [e1] at this; unfold draw at this; rw [if_neg h0] at this; omega) (by omega)).symm)
end Go.Proofs.BL
