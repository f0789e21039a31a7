/- Plain arithmetic for the document's Cmp, Len, Bit, Add, Sub, Mul, Shr over digits of 16 bits. No program in sight. -/
import Derived.Test.YtepndjcncmkkkaaRefA
import Derived.Test.YtepndjcncmkkkaaRefPure
namespace Go.Proofs.RN
open Go.RowKit
open Go.Proofs
open Go.Proofs.NP
open Go.Proofs.SL
set_option linter.unusedVariables false
set_option linter.unusedSimpArgs false

theorem Dd (n : Nat) : Dig 65536 (D n) := dig_digs _ (by decide) n
theorem UD (n : Nat) : U (D n) = n := val_digs _ (by decide) n
theorem D_len {xs : List Nat} (h : Ws xs) : (D (V xs)).length ≤ 4 * xs.length := by
  refine digs_length_le 65536 (by decide) _ _ ?_
  have := V_lt h
  rw [Nat.pow_mul]; exact this
theorem Ddg (n i : Nat) : (D n)[i]?.getD 0 = dg 65536 n i := by
  have h := getD_dg 65536 (by decide) (Dd n) i
  rw [h]; show dg 65536 (U (D n)) i = _; rw [UD]
theorem Dlt (n : Nat) : n < 65536 ^ (D n).length := lt_pow_length _ (by decide) n
theorem Dlen_lt {x y : Nat} (h : (D x).length < (D y).length) : x < y := by
  rcases Nat.lt_or_ge x y with h' | h'
  · exact h'
  · have := digs_length_le 65536 (by decide) (D x).length y (Nat.lt_of_le_of_lt h' (Dlt x))
    have e : (D y).length = (digs 65536 y).length := rfl
    omega

theorem bitLen_half (x : Nat) (h : x ≠ 0) : bitLen x = bitLen (x / 2) + 1 := by
  by_cases h1 : x / 2 = 0
  · obtain rfl : x = 1 := by omega
    decide
  · have := bitLen_shift x 1 (by simpa using h1)
    simp at this; omega
theorem bitLen_D (n : Nat) (h : 0 < (D n).length) : bitLen n = 16 * ((D n).length - 1) + bitLen ((D n)[(D n).length - 1]?.getD 0) := by
  have h0 : (D n)[(D n).length - 1]?.getD 0 ≠ 0 := by
    have key : ∀ (ds : List Nat), 0 < ds.length → (∀ h : ds ≠ [], ds.getLast h ≠ 0) → ds[ds.length - 1]?.getD 0 ≠ 0 := by
      intro ds h hl
      have hne : ds ≠ [] := by intro e; rw [e] at h; simp at h
      have := hl hne
      rw [List.getLast_eq_getElem] at this
      simpa [show ds.length - 1 < ds.length by omega] using this
    exact key (D n) h (digs_last 65536 (by decide) n)
  have e2 := Ddg n ((D n).length - 1)
  have hlt := Dlt n
  obtain ⟨m, hm⟩ : ∃ m, (D n).length = m + 1 := ⟨(D n).length - 1, by omega⟩
  rw [hm] at h0 e2 hlt ⊢
  simp only [Nat.add_sub_cancel] at h0 e2 ⊢
  rw [e2] at h0 ⊢
  have e3 : n / 2 ^ (16 * m) = dg 65536 n m := by
    rw [dg, Nat.pow_mul, Nat.mod_eq_of_lt]
    rw [Nat.div_lt_iff_lt_mul (Nat.pow_pos (by decide)), Nat.mul_comm, ← Nat.pow_succ]; exact hlt
  rw [← e3] at h0 ⊢
  exact bitLen_shift n (16 * m) h0
theorem D_pos_iff (n : Nat) : (D n).length = 0 ↔ n = 0 := by
  constructor
  · intro h; have := Dlt n; rw [h] at this; simpa using this
  · rintro rfl; rfl

theorem bit_D (n i : Nat) : dg 65536 n (i / 16) / 2 ^ (i % 16) % 2 = n / 2 ^ i % 2 := by
  rw [bit_dg 65536 16 n (i / 16) (i % 16) (by decide) (Nat.mod_lt _ (by decide))]
  rw [show i / 16 * 16 + i % 16 = i by omega]
theorem bit_D_none (n i : Nat) (h : (D n).length ≤ i / 16) : n / 2 ^ i % 2 = 0 := by
  have h1 := Dlt n
  have h2 : 65536 ^ (D n).length ≤ 2 ^ i := by
    rw [show (65536 : Nat) = 2 ^ 16 by decide, ← Nat.pow_mul]; exact Nat.pow_le_pow_right (by decide) (by omega)
  rw [Nat.div_eq_of_lt (by omega)]

/-- a sum is through: beyond all digits, with nothing carried -/
theorem add_end (x y i : Nat) (hx : (D x).length ≤ i) (hy : (D y).length ≤ i) (h0 : cin 65536 x y i = 0) : val 65536 (low 65536 (x + y) i) = x + y := by
  have p : 0 < 65536 ^ i := Nat.pow_pos (by decide)
  have x1 : x < 65536 ^ i := Nat.lt_of_lt_of_le (Dlt x) (Nat.pow_le_pow_right (by decide) hx)
  have y1 : y < 65536 ^ i := Nat.lt_of_lt_of_le (Dlt y) (Nat.pow_le_pow_right (by decide) hy)
  rw [val_low]
  unfold cin at h0
  rw [Nat.mod_eq_of_lt x1, Nat.mod_eq_of_lt y1] at h0
  rcases Nat.lt_or_ge (x + y) (65536 ^ i) with h | h
  · exact Nat.mod_eq_of_lt h
  · have := Nat.div_pos h p; omega
theorem cin_end (x y i : Nat) (hx : (D x).length < i) (hy : (D y).length < i) : cin 65536 x y i = 0 := by
  obtain ⟨m, rfl⟩ : ∃ m, i = m + 1 := ⟨i - 1, by omega⟩
  have x1 : x < 65536 ^ m := Nat.lt_of_lt_of_le (Dlt x) (Nat.pow_le_pow_right (by decide) (by omega))
  have y1 : y < 65536 ^ m := Nat.lt_of_lt_of_le (Dlt y) (Nat.pow_le_pow_right (by decide) (by omega))
  have e : (65536 : Nat) ^ (m + 1) = 65536 ^ m * 65536 := Nat.pow_succ _ _
  unfold cin
  generalize (65536 : Nat) ^ m = B at *
  rw [e, Nat.mod_eq_of_lt (by omega), Nat.mod_eq_of_lt (by omega), Nat.div_eq_of_lt (by omega)]
theorem sub_end (x y : Nat) : val 65536 (low 65536 (x - y) (D x).length) = x - y := by
  rw [val_low]; exact Nat.mod_eq_of_lt (Nat.lt_of_le_of_lt (Nat.sub_le _ _) (Dlt x))

theorem bit_room (T k : Nat) {os : List Nat} (hd : Dig 65536 os) (hv : val 65536 os = T % 2 ^ k) :
    os[k / 16]?.getD 0 + 2 ^ (k % 16) < 65537 ∧ 2 ^ (k % 16) ≤ 32768 ∧ os[k / 16]?.getD 0 < 2 ^ (k % 16) := by
  have h1 : T % 2 ^ k < 2 ^ k := Nat.mod_lt _ (Nat.two_pow_pos k)
  have e : 2 ^ k = 65536 ^ (k / 16) * 2 ^ (k % 16) := by
    rw [show (65536 : Nat) = 2 ^ 16 by decide, ← Nat.pow_mul, ← Nat.pow_add]; congr 1; omega
  have h2 : os[k / 16]?.getD 0 < 2 ^ (k % 16) := by
    rw [getD_dg 65536 (by decide) hd, hv, dg]
    refine Nat.lt_of_le_of_lt (Nat.mod_le _ _) ?_
    rw [Nat.div_lt_iff_lt_mul (Nat.pow_pos (by decide)), Nat.mul_comm, ← e]; exact h1
  have h3 : 2 ^ (k % 16) ≤ 2 ^ 15 := Nat.pow_le_pow_right (by decide) (by omega)
  have h4 : (2 : Nat) ^ 15 = 32768 := by decide
  omega
theorem bit_set (T k : Nat) {os : List Nat} (hd : Dig 65536 os) (hv : val 65536 os = T % 2 ^ k) (hk : k / 16 < os.length) (hb : T / 2 ^ k % 2 = 1) :
    Dig 65536 (os.set (k / 16) (os[k / 16]?.getD 0 + 2 ^ (k % 16))) ∧ val 65536 (os.set (k / 16) (os[k / 16]?.getD 0 + 2 ^ (k % 16))) = T % 2 ^ (k + 1) := by
  have ⟨r1, r2, r3⟩ := bit_room T k hd hv
  refine ⟨hd.set _ _ (by omega), ?_⟩
  have s := val_set 65536 os (k / 16) (os[k / 16]?.getD 0 + 2 ^ (k % 16)) hk
  have e : 2 ^ k = 2 ^ (k % 16) * 65536 ^ (k / 16) := by
    rw [show (65536 : Nat) = 2 ^ 16 by decide, ← Nat.pow_mul, ← Nat.pow_add]; congr 1; omega
  rw [Nat.add_mul, ← e] at s
  have m : T % 2 ^ (k + 1) = T % 2 ^ k + 2 ^ k * (T / 2 ^ k % 2) := by rw [Nat.pow_succ, Nat.mod_mul]
  rw [m, hb]; omega
theorem bit_not (T k : Nat) (hb : T / 2 ^ k % 2 = 0) : T % 2 ^ k = T % 2 ^ (k + 1) := by
  have m : T % 2 ^ (k + 1) = T % 2 ^ k + 2 ^ k * (T / 2 ^ k % 2) := by rw [Nat.pow_succ, Nat.mod_mul]
  rw [m, hb]; simp
theorem bit_all (T k : Nat) (h : bitLen T ≤ k) : T % 2 ^ k = T := Nat.mod_eq_of_lt ((bitLen_le_iff T k).1 h)

/-- 2 to the power of n, as digits -/
theorem power_val (n m : Nat) (h : m = n / 16 + 1) : val 65536 ((List.replicate m 0).set (n / 16) (2 ^ (n % 16))) = 2 ^ n := by
  have s := val_set 65536 (List.replicate m 0) (n / 16) (2 ^ (n % 16)) (by simp; omega)
  rw [val_zeros] at s
  have e : 2 ^ n = 2 ^ (n % 16) * 65536 ^ (n / 16) := by
    rw [show (65536 : Nat) = 2 ^ 16 by decide, ← Nat.pow_mul, ← Nat.pow_add]; congr 1; omega
  have z : (List.replicate m 0)[n / 16]?.getD 0 = 0 := by rw [List.getElem?_replicate]; split <;> rfl
  rw [z] at s; omega
theorem power_dig (n m : Nat) : Dig 65536 ((List.replicate m 0).set (n / 16) (2 ^ (n % 16))) := by
  refine (Dig.zeros (by decide) m).set _ _ ?_
  exact Nat.lt_of_le_of_lt (Nat.pow_le_pow_right (by decide) (show n % 16 ≤ 15 by omega)) (by decide)
end Go.Proofs.RN
