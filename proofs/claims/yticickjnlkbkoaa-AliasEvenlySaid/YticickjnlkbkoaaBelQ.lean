/- Below: plain: all strings of so many bits: how many of them draw each number, and how many bits are read in all. No program in sight. -/
import Derived.Test.YticickjnlkbkoaaBelP
import Derived.Test.YticickjnlkbkoaaBitsI
namespace Go.Proofs.BL
open Go.RowKit
open Go.Proofs
open Go.Proofs.NP
open Go.Proofs.BT
open Go
set_option linter.unusedVariables false
set_option linter.unusedSimpArgs false
/-- a sum over the numbers below one -/
def sum (f : Nat → Nat) : Nat → Nat
  | 0 => 0
  | i + 1 => sum f i + f i
theorem sum_congr {f g : Nat → Nat} : ∀ {n : Nat}, (∀ i, i < n → f i = g i) → sum f n = sum g n
  | 0, _ => rfl
  | n + 1, h => by rw [sum, sum, sum_congr (fun i hi => h i (by omega)), h n (by omega)]
theorem sum_add (f : Nat → Nat) (a : Nat) : ∀ c, sum f (a + c) = sum f a + sum (fun i => f (a + i)) c
  | 0 => rfl
  | c + 1 => by rw [← Nat.add_assoc, sum, sum_add f a c, sum]; omega
theorem sum_mul (f : Nat → Nat) (d : Nat) : ∀ c, sum f (c * d) = sum (fun q => sum (fun r => f (q * d + r)) d) c
  | 0 => by simp [sum]
  | c + 1 => by rw [Nat.succ_mul, sum_add, sum_mul f d c, sum]
theorem sum_const (v : Nat) : ∀ n, sum (fun _ => v) n = n * v
  | 0 => by simp [sum]
  | n + 1 => by rw [sum, sum_const v n, Nat.succ_mul]
theorem sum_plus (f g : Nat → Nat) : ∀ n, sum (fun i => f i + g i) n = sum f n + sum g n
  | 0 => rfl
  | n + 1 => by rw [sum, sum, sum, sum_plus f g n]; omega
theorem sum_le (f : Nat → Nat) (v : Nat) (h : ∀ i, f i ≤ v) : ∀ n, sum f n ≤ n * v
  | 0 => by simp [sum]
  | n + 1 => by have := sum_le f v h n; have := h n; rw [sum, Nat.succ_mul]; omega
theorem sum_mono (f g : Nat → Nat) : ∀ {n}, (∀ i, i < n → f i ≤ g i) → sum f n ≤ sum g n
  | 0, _ => Nat.le_refl _
  | n + 1, h => by rw [sum, sum]; exact Nat.add_le_add (sum_mono f g (fun i hi => h i (by omega))) (h n (by omega))
theorem sum_scale (f : Nat → Nat) (k : Nat) : ∀ n, sum (fun i => f i * k) n = sum f n * k
  | 0 => by simp [sum]
  | n + 1 => by rw [sum, sum, sum_scale f k n, Nat.add_mul]
/-- one of so many, at a place -/
theorem sum_one (v x : Nat) : ∀ n, sum (fun i => if i = x then v else 0) n = if x < n then v else 0
  | 0 => by simp [sum]
  | n + 1 => by
    rw [sum, sum_one v x n]
    rcases Nat.lt_trichotomy x n with h | h | h
    · rw [if_pos h, if_neg (by omega), if_pos (by omega)]; rfl
    · subst h; rw [if_neg (by omega), if_pos rfl, if_pos (by omega), Nat.zero_add]
    · rw [if_neg (by omega), if_neg (by omega), if_neg (by omega)]
/-- a bit of a number's bits -/
theorem lowL_get (n : Nat) : ∀ (k j : Nat) (h : j < (lowL n k).length), (lowL n k)[j] = bitB n (k - 1 - j)
  | 0, j, h => by simp [lowL] at h
  | k + 1, 0, h => by simp [lowL]
  | k + 1, j + 1, h => by
    simp only [lowL, List.getElem_cons_succ]
    rw [lowL_get n k j (by simpa [lowL] using h)]
    congr 1; omega
theorem bitA_ofB (n k j : Nat) (h : j < k) : bitA (ofB n k) j = n / 2 ^ (k - 1 - j) % 2 := by
  have hs : j < (ofB n k).size := by rw [ofB_size]; exact h
  have e : (ofB n k)[j] = bitB n (k - 1 - j) := by
    rw [← lowL_get n k j (by rw [lowL_len]; exact h)]
    rfl
  rw [bitA, dif_pos hs, e, bitB]
  have := Nat.mod_two_eq_zero_or_one (n / 2 ^ (k - 1 - j))
  rcases this with h | h <;> rw [h] <;> decide
theorem numA_ofB (n k a : Nat) : ∀ (i : Nat), a + i ≤ k → numA (ofB n k) a i = n / 2 ^ (k - a - i) % 2 ^ i
  | 0, _ => by simp [numA, Nat.mod_one]
  | i + 1, h => by
    have e1 : k - a - i = (k - a - (i + 1)) + 1 := by omega
    have e2 : k - 1 - (a + i) = k - a - (i + 1) := by omega
    rw [numA, numA_ofB n k a i (by omega), bitA_ofB n k (a + i) (by omega), e2, e1, Nat.pow_succ, ← Nat.div_div_eq_div_mul]
    generalize n / 2 ^ (k - a - (i + 1)) = q
    have h1 := Nat.mod_mul_right_mod q 2 (2 ^ i)
    have h2 := Nat.mod_mul_right_div_self q 2 (2 ^ i)
    have h3 := Nat.div_add_mod (q % (2 * 2 ^ i)) 2
    rw [Nat.pow_succ, Nat.mul_comm (2 ^ i) 2]
    omega
/-- the tail of a number's bits is a number's bits -/
theorem numA_tail (n k b a i : Nat) (hb : b ≤ k) (h : a + i ≤ k - b) : numA (ofB n k) (a + b) i = numA (ofB (n % 2 ^ (k - b)) (k - b)) a i := by
  rw [numA_ofB n k (a + b) i (by omega), numA_ofB _ (k - b) a i h]
  have e : k - (a + b) - i = k - b - a - i := by omega
  rw [e]
  obtain ⟨d, hd⟩ : ∃ d, k - b = (k - b - a - i) + d := ⟨a + i, by omega⟩
  have h1 : n % 2 ^ (k - b) / 2 ^ (k - b - a - i) = n / 2 ^ (k - b - a - i) % 2 ^ d := by
    generalize k - b - a - i = c at hd
    rw [hd, Nat.pow_add, Nat.mod_mul_right_div_self]
  have hd' : d = a + i := by omega
  rw [h1, hd', Nat.pow_add, Nat.mul_comm, Nat.mod_mul_right_mod]
/-- behind so many more bits -/
def Dr.up (b : Nat) (d : Dr) : Dr := ⟨d.x, d.is, d.at' + b, d.ov⟩
theorem drw_tail (n k b m : Nat) (hb : b ≤ k) : ∀ f a, a ≤ k - b → drw (ofB n k) m f (a + b) = (drw (ofB (n % 2 ^ (k - b)) (k - b)) m f a).up b
  | 0, a, _ => rfl
  | f + 1, a, h => by
    rw [drw, drw, ofB_size, ofB_size]
    by_cases c1 : k - b < a + wid m
    · rw [if_pos c1, if_pos (by omega)]; rfl
    · rw [if_neg c1, if_neg (by omega), numA_tail n k b a (wid m) hb (by omega)]
      split
      · show (⟨_, _, _, _⟩ : Dr) = ⟨_, _, _, _⟩
        rw [Nat.add_right_comm]
      · rw [Nat.add_right_comm]
        exact drw_tail n k b m hb f (a + wid m) (by omega)
/-- what the string of n bits whose number is i draws below m -/
def dn (m n i : Nat) : Dr := drw (ofB i n) m (n + 1) 0
theorem dn_short {m n i : Nat} (h : n < wid m) : dn m n i = ⟨0, false, 0, true⟩ := by
  rw [dn, drw, ofB_size, if_pos (by omega)]
theorem dn_long {m n i : Nat} (hm : 0 < m) (h : wid m ≤ n) (h0 : 0 < wid m) (hi : i < 2 ^ n) :
    dn m n i = if i / 2 ^ (n - wid m) < m then ⟨i / 2 ^ (n - wid m), true, wid m, false⟩ else (dn m (n - wid m) (i % 2 ^ (n - wid m))).up (wid m) := by
  have e : numA (ofB i n) 0 (wid m) = i / 2 ^ (n - wid m) := by
    rw [numA_ofB i n 0 (wid m) (by omega), Nat.sub_zero]
    refine Nat.mod_eq_of_lt ?_
    rw [Nat.div_lt_iff_lt_mul (Nat.two_pow_pos _), ← Nat.pow_add]
    have : wid m + (n - wid m) = n := by omega
    rw [this]; exact hi
  rw [dn, drw, ofB_size, if_neg (by omega), e, Nat.zero_add]
  split
  · rfl
  · have := drw_tail i n (wid m) m h n 0 (by omega)
    rw [Nat.zero_add] at this
    rw [this, dn]
    congr 1
    refine drw_more hm ?_ ?_ <;> rw [ofB_size] <;> omega
/-- over all strings of n bits: the ones that a first try gives, and those behind a try that fails -/
theorem sum_dn {m n : Nat} (hm : 0 < m) (h : wid m ≤ n) (h0 : 0 < wid m) (g : Dr → Nat) :
    sum (fun i => g (dn m n i)) (2 ^ n) = 2 ^ (n - wid m) * sum (fun q => g ⟨q, true, wid m, false⟩) m + (2 ^ wid m - m) * sum (fun r => g ((dn m (n - wid m) r).up (wid m))) (2 ^ (n - wid m)) := by
  have hw := lt_wid m hm
  obtain ⟨d, hd⟩ : ∃ d, d = 2 ^ (n - wid m) := ⟨_, rfl⟩
  have hd0 : 0 < d := by rw [hd]; exact Nat.two_pow_pos _
  obtain ⟨B, hB⟩ : ∃ B, B = 2 ^ wid m := ⟨_, rfl⟩
  have e : 2 ^ n = B * d := by rw [hB, hd, ← Nat.pow_add]; congr 1; omega
  have hlt : ∀ q r, q < B → r < d → q * d + r < 2 ^ n := fun q r hq hr => by
    rw [e]
    have h1 : (q + 1) * d ≤ B * d := Nat.mul_le_mul_right _ hq
    rw [Nat.succ_mul] at h1
    omega
  have hdv : ∀ q r, r < d → (q * d + r) / d = q ∧ (q * d + r) % d = r := fun q r hr => by
    constructor
    · rw [Nat.mul_comm, Nat.mul_add_div hd0, Nat.div_eq_of_lt hr, Nat.add_zero]
    · rw [Nat.mul_comm, Nat.mul_add_mod, Nat.mod_eq_of_lt hr]
  rw [← hd]
  rw [← hB] at hw ⊢
  rw [e, sum_mul]
  obtain ⟨c, hc⟩ : ∃ c, B = m + c := ⟨B - m, by omega⟩
  have e2 : B - m = c := by omega
  rw [e2]
  have s1 : sum (fun q => sum (fun r => g (dn m n (q * d + r))) d) m = d * sum (fun q => g ⟨q, true, wid m, false⟩) m := by
    rw [Nat.mul_comm d, ← sum_scale]
    refine sum_congr (fun q hq => ?_)
    rw [Nat.mul_comm (g ⟨q, true, wid m, false⟩) d, ← sum_const (g ⟨q, true, wid m, false⟩) d]
    refine sum_congr (fun r hr => ?_)
    have := dn_long (m := m) (n := n) (i := q * d + r) hm h h0 (hlt q r (by omega) hr)
    rw [← hd, (hdv q r hr).1, if_pos hq] at this
    rw [this]
  have s2 : sum (fun q => sum (fun r => g (dn m n ((m + q) * d + r))) d) c = c * sum (fun r => g ((dn m (n - wid m) r).up (wid m))) d := by
    rw [← sum_const]
    refine sum_congr (fun q hq => ?_)
    refine sum_congr (fun r hr => ?_)
    have := dn_long (m := m) (n := n) (i := (m + q) * d + r) hm h h0 (hlt (m + q) r (by omega) hr)
    rw [← hd, (hdv (m + q) r hr).1, (hdv (m + q) r hr).2, if_neg (by omega)] at this
    rw [this]
  rw [hc, sum_add, s1, s2]
/-- by how many bits: those that were read, or all where more are needed -/
def rd (n : Nat) (d : Dr) : Nat := if d.is = true then d.at' else n
def mo (d : Dr) : Nat := if d.is = true then 0 else 1
theorem mean_le {m : Nat} (hm : 0 < m) : ∀ n, sum (fun i => rd n (dn m n i)) (2 ^ n) * m ≤ wid m * 2 ^ wid m * 2 ^ n := by
  intro n
  induction n using Nat.strongRecOn with
  | ind n ih => ?_
  have hw := lt_wid m hm
  by_cases h0 : wid m = 0
  · have e : ∀ i, rd n (dn m n i) = 0 := fun i => by
      have h1 := wid_zero m hm h0
      rw [dn, drw, ofB_size, if_neg (by omega), h0, numA, if_pos (by omega)]; rfl
    rw [sum_congr (g := fun _ => 0) (fun i _ => e i), sum_const]; simp
  by_cases h : n < wid m
  · rw [sum_congr (g := fun _ => n) (fun i _ => by rw [dn_short h]; rfl), sum_const]
    have h1 : n * m ≤ wid m * 2 ^ wid m := Nat.mul_le_mul (by omega) hw
    calc 2 ^ n * n * m = n * m * 2 ^ n := by rw [Nat.mul_assoc, Nat.mul_comm]
      _ ≤ _ := Nat.mul_le_mul_right _ h1
  · have hle : wid m ≤ n := by omega
    have hi := ih (n - wid m) (by omega)
    rw [sum_dn hm hle (by omega)]
    have e1 : sum (fun q => rd n ⟨q, true, wid m, false⟩) m = m * wid m := by
      exact (sum_congr (g := fun _ => wid m) (fun q _ => rfl)).trans (sum_const _ _)
    have e2 : sum (fun r => rd n ((dn m (n - wid m) r).up (wid m))) (2 ^ (n - wid m)) = 2 ^ (n - wid m) * wid m + sum (fun r => rd (n - wid m) (dn m (n - wid m) r)) (2 ^ (n - wid m)) := by
      rw [← sum_const, ← sum_plus]
      refine sum_congr (fun r _ => ?_)
      unfold rd Dr.up
      simp only
      split <;> omega
    rw [e1, e2]
    obtain ⟨d, hd⟩ : ∃ d, d = 2 ^ (n - wid m) := ⟨_, rfl⟩
    obtain ⟨S, hS⟩ : ∃ S, S = sum (fun r => rd (n - wid m) (dn m (n - wid m) r)) (2 ^ (n - wid m)) := ⟨_, rfl⟩
    obtain ⟨B, hB⟩ : ∃ B, B = 2 ^ wid m := ⟨_, rfl⟩
    have e : 2 ^ n = B * d := by rw [hB, hd, ← Nat.pow_add]; congr 1; omega
    obtain ⟨c, hc⟩ : ∃ c, B = m + c := ⟨B - m, by omega⟩
    have ec : B - m = c := by omega
    rw [← hS, ← hd] at hi ⊢
    rw [← hB] at hi ⊢
    rw [e, ec]
    obtain ⟨v, hv⟩ : ∃ v, v = wid m := ⟨_, rfl⟩
    rw [← hv] at hi ⊢
    have h2 : c * (S * m) ≤ c * (v * B * d) := Nat.mul_le_mul_left _ hi
    calc (d * (m * v) + c * (d * v + S)) * m = d * m * v * m + c * d * v * m + c * (S * m) := by
          simp only [Nat.add_mul, Nat.mul_add, Nat.mul_assoc]
          omega
      _ ≤ d * m * v * m + c * d * v * m + c * (v * B * d) := Nat.add_le_add_left h2 _
      _ = v * B * (B * d) := by
          have : v * B * (B * d) = (m + c) * d * v * m + c * (v * B * d) := by
            rw [← hc]
            have : v * B * (B * d) = (m + c) * (v * B * d) := by rw [← hc]; ac_rfl
            rw [this, Nat.add_mul]
            congr 1
            ac_rfl
          rw [this, Nat.mul_comm d m]; simp only [Nat.add_mul]
/-- the part that needs more: as many bits as there are, each time -/
theorem more_le (m n : Nat) : sum (fun i => mo (dn m n i)) (2 ^ n) * n ≤ sum (fun i => rd n (dn m n i)) (2 ^ n) := by
  rw [← sum_scale]
  refine sum_mono _ _ (fun i _ => ?_)
  unfold mo rd
  split <;> omega
/-- how many strings of n bits draw x below m -/
def hit (x : Nat) (d : Dr) : Nat := if d.is = true ∧ d.x = x then 1 else 0
theorem hit_up (x b : Nat) (d : Dr) : hit x (d.up b) = hit x d := rfl
def cnt (m x n : Nat) : Nat := sum (fun i => hit x (dn m n i)) (2 ^ n)
theorem cnt_short {m x n : Nat} (h : n < wid m) : cnt m x n = 0 := by
  unfold cnt
  rw [sum_congr (g := fun _ => 0) (fun i _ => by rw [dn_short h]; rfl), sum_const, Nat.mul_zero]
theorem cnt_long {m x n : Nat} (hm : 0 < m) (hx : x < m) (h : wid m ≤ n) (h0 : 0 < wid m) : cnt m x n = 2 ^ (n - wid m) + (2 ^ wid m - m) * cnt m x (n - wid m) := by
  have h1 := sum_dn (m := m) (n := n) hm h h0 (hit x)
  have h2 : sum (fun q => hit x ⟨q, true, wid m, false⟩) m = 1 := by
    have := sum_one 1 x m
    rw [if_pos hx] at this
    rw [← this]
    refine sum_congr (fun q _ => ?_)
    unfold hit; simp
  rw [h2, Nat.mul_one] at h1
  exact h1
theorem cnt_one {n : Nat} : cnt 1 0 n = 2 ^ n := by
  have e : ∀ i, hit 0 (dn 1 n i) = 1 := fun i => by
    have h0 : wid 1 = 0 := by decide +kernel
    rw [dn, drw, ofB_size, if_neg (by omega), h0, numA, if_pos (by omega)]; rfl
  unfold cnt
  rw [sum_congr (g := fun _ => 1) (fun i _ => e i), sum_const, Nat.mul_one]
end Go.Proofs.BL
