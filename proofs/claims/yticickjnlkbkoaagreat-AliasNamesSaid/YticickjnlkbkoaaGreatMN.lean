/- Naturals as lists of digits; slices of words. -/
import Derived.Laws.MathBits
import Derived.WalkKit
import Derived.WalkSmall
import Derived.Deep.Draws
import Derived.Lib.AppendZerosOnto
import Derived.OwnWalk
/- Plain arithmetic: naturals as lists of digits of any base, the lowest digit first: no program in sight. -/
namespace Go.Proofs.NP
set_option linter.unusedVariables false

/-- the number of a list of digits -/
def val (b : Nat) : List Nat → Nat
  | [] => 0
  | x :: xs => x + b * val b xs

/-- all digits are below the base -/
def Dig (b : Nat) (xs : List Nat) : Prop := ∀ x ∈ xs, x < b

def digsF (b : Nat) : Nat → Nat → List Nat
  | 0, _ => []
  | f + 1, n => if n = 0 then [] else n % b :: digsF b f (n / b)

/-- a number's digits, without 0s at the end -/
def digs (b n : Nat) : List Nat := digsF b n n

/-- the digit at a place -/
def dg (b n i : Nat) : Nat := n / b ^ i % b

theorem digsF_more (b : Nat) (hb : 2 ≤ b) : ∀ f g n, n ≤ f → n ≤ g → digsF b f n = digsF b g n := by
  intro f
  induction f with
  | zero => intro g n h1 h2; obtain rfl : n = 0 := by omega
            cases g <;> simp [digsF]
  | succ f ih =>
    intro g n h1 h2
    by_cases hn : n = 0
    · subst hn; cases g <;> simp [digsF]
    · cases g with
      | zero => omega
      | succ g =>
        have : n / b < n := Nat.div_lt_self (by omega) (by omega)
        simp only [digsF, if_neg hn]
        rw [ih g (n / b) (by omega) (by omega)]

theorem digs_zero (b : Nat) : digs b 0 = [] := rfl

theorem digs_pos (b n : Nat) (hb : 2 ≤ b) (hn : n ≠ 0) : digs b n = n % b :: digs b (n / b) := by
  cases n with
  | zero => omega
  | succ n =>
    have : (n + 1) / b < n + 1 := Nat.div_lt_self (by omega) (by omega)
    show digsF b (n + 1) (n + 1) = _
    simp only [digsF, if_neg hn]
    congr 1
    exact digsF_more b hb _ _ _ (by omega) (Nat.le_refl _)

theorem val_digs (b : Nat) (hb : 2 ≤ b) : ∀ n, val b (digs b n) = n := by
  intro n
  induction n using Nat.strongRecOn with
  | _ n ih =>
    by_cases hn : n = 0
    · subst hn; rfl
    · rw [digs_pos b n hb hn, val, ih _ (Nat.div_lt_self (by omega) (by omega))]
      exact Nat.mod_add_div n b

theorem dig_digs (b : Nat) (hb : 2 ≤ b) : ∀ n, Dig b (digs b n) := by
  intro n
  induction n using Nat.strongRecOn with
  | _ n ih =>
    by_cases hn : n = 0
    · subst hn; intro x hx; simp [digs_zero] at hx
    · rw [digs_pos b n hb hn]
      intro x hx
      rcases List.mem_cons.1 hx with rfl | hx
      · exact Nat.mod_lt _ (by omega)
      · exact ih _ (Nat.div_lt_self (by omega) (by omega)) x hx

theorem digs_inj (b : Nat) (hb : 2 ≤ b) {m n : Nat} (h : digs b m = digs b n) : m = n := by
  rw [← val_digs b hb m, h, val_digs b hb n]

theorem Dig.tail {b x : Nat} {xs : List Nat} (h : Dig b (x :: xs)) : Dig b xs := fun y hy => h y (List.mem_cons_of_mem _ hy)
theorem Dig.head {b x : Nat} {xs : List Nat} (h : Dig b (x :: xs)) : x < b := h x (by simp)
theorem Dig.take {b : Nat} {xs : List Nat} (h : Dig b xs) (n : Nat) : Dig b (xs.take n) := fun x hx => h x (List.mem_of_mem_take hx)
theorem Dig.append {b : Nat} {xs ys : List Nat} (h : Dig b xs) (k : Dig b ys) : Dig b (xs ++ ys) := fun x hx => by
  rcases List.mem_append.1 hx with h' | h'
  · exact h x h'
  · exact k x h'
theorem Dig.nil (b : Nat) : Dig b [] := fun x hx => by simp at hx
theorem Dig.get {b : Nat} {xs : List Nat} (h : Dig b xs) (i : Nat) (hi : i < xs.length) : xs[i] < b := h _ (List.getElem_mem hi)
theorem Dig.getD {b : Nat} {xs : List Nat} (h : Dig b xs) (hb : 0 < b) (i : Nat) : xs[i]?.getD 0 < b := by
  by_cases hi : i < xs.length
  · simp [hi]; exact h.get i hi
  · simp [hi]; exact hb

theorem val_lt {b : Nat} (hb : 0 < b) : ∀ {xs : List Nat}, Dig b xs → val b xs < b ^ xs.length := by
  intro xs
  induction xs with
  | nil => intro _; simp [val]
  | cons x xs ih =>
    intro h
    have h1 := ih h.tail
    have h2 := h.head
    rw [val, List.length_cons, Nat.pow_succ']
    have : b * (val b xs + 1) ≤ b * b ^ xs.length := Nat.mul_le_mul_left _ h1
    rw [Nat.mul_add] at this
    omega

theorem val_append (b : Nat) : ∀ xs ys : List Nat, val b (xs ++ ys) = val b xs + b ^ xs.length * val b ys := by
  intro xs ys
  induction xs with
  | nil => simp [val]
  | cons x xs ih =>
    rw [List.cons_append, val, val, ih, List.length_cons, Nat.pow_succ', Nat.mul_add, ← Nat.mul_assoc]
    omega

theorem val_zeros (b n : Nat) : val b (List.replicate n 0) = 0 := by
  induction n with
  | zero => rfl
  | succ n ih => rw [List.replicate_succ, val, ih]; simp

/-- a list without 0 at its end is its number's digits -/
theorem digs_val (b : Nat) (hb : 2 ≤ b) : ∀ {xs : List Nat}, Dig b xs → (∀ h : xs ≠ [], xs.getLast h ≠ 0) → digs b (val b xs) = xs := by
  intro xs
  induction xs with
  | nil => intro _ _; rfl
  | cons x xs ih =>
    intro h hl
    have hx := h.head
    have hd : (x + b * val b xs) / b = val b xs := by
      rw [Nat.add_mul_div_left _ _ (by omega), Nat.div_eq_of_lt hx]; omega
    have hm : (x + b * val b xs) % b = x := by
      rw [Nat.add_mul_mod_self_left, Nat.mod_eq_of_lt hx]
    have ih := ih h.tail (fun hn => by have := hl (by simp); rw [List.getLast_cons hn] at this; exact this)
    have hn : x + b * val b xs ≠ 0 := by
      intro e
      have hx0 : x = 0 := by omega
      have hb0 : b * val b xs = 0 := by omega
      have hv0 : val b xs = 0 := by
        rcases Nat.mul_eq_zero.1 hb0 with h' | h'
        · omega
        · exact h'
      rw [hv0, digs_zero] at ih
      subst ih
      have := hl (by simp)
      simp at this; omega
    rw [val, digs_pos b _ hb hn, hm, hd, ih]

/-- so many digits suffice -/
theorem digs_length_le (b : Nat) (hb : 2 ≤ b) : ∀ k n, n < b ^ k → (digs b n).length ≤ k := by
  intro k
  induction k with
  | zero => intro n h; obtain rfl : n = 0 := by simpa using h
            simp [digs_zero]
  | succ k ih =>
    intro n h
    by_cases hn : n = 0
    · subst hn; simp [digs_zero]
    · rw [digs_pos b n hb hn, List.length_cons]
      have : n / b < b ^ k := by
        rw [Nat.div_lt_iff_lt_mul (by omega), ← Nat.pow_succ]; exact h
      have := ih _ this
      omega

theorem lt_pow_length (b : Nat) (hb : 2 ≤ b) (n : Nat) : n < b ^ (digs b n).length := by
  have := val_lt (b := b) (by omega) (dig_digs b hb n)
  rw [val_digs b hb] at this; exact this

theorem digs_length_lt (b : Nat) (hb : 2 ≤ b) (k n : Nat) (h : b ^ k ≤ n) : k < (digs b n).length := by
  have := lt_pow_length b hb n
  exact (Nat.pow_lt_pow_iff_right (by omega)).1 (Nat.lt_of_le_of_lt h this)

theorem digs_last (b : Nat) (hb : 2 ≤ b) : ∀ n, ∀ h : digs b n ≠ [], (digs b n).getLast h ≠ 0 := by
  intro n
  induction n using Nat.strongRecOn with
  | _ n ih =>
    intro h
    by_cases hn : n = 0
    · subst hn; simp [digs_zero] at h
    · by_cases hd : n / b = 0
      · have : digs b n = [n % b] := by rw [digs_pos b n hb hn, hd, digs_zero]
        simp only [this, List.getLast_singleton]
        have := Nat.mod_add_div n b
        rw [hd] at this; omega
      · have hne : digs b (n / b) ≠ [] := by rw [digs_pos b _ hb hd]; simp
        have e := digs_pos b n hb hn
        have := ih _ (Nat.div_lt_self (by omega) (by omega)) hne
        simp only [e, List.getLast_cons hne]
        exact this

/-- the digit at a place of a list is the number's -/
theorem getD_dg (b : Nat) (hb : 2 ≤ b) : ∀ {xs : List Nat}, Dig b xs → ∀ i, xs[i]?.getD 0 = dg b (val b xs) i := by
  intro xs
  induction xs with
  | nil => intro _ i; simp [val, dg]
  | cons x xs ih =>
    intro h i
    have hx := h.head
    cases i with
    | zero => simp [val, dg, Nat.mod_eq_of_lt hx]
    | succ i =>
      have := ih h.tail i
      simp only [List.getElem?_cons_succ, this, val, dg]
      rw [Nat.pow_succ', ← Nat.div_div_eq_div_mul, Nat.add_mul_div_left _ _ (by omega), Nat.div_eq_of_lt hx, Nat.zero_add]

/-- so many digits of a number -/
def low (b n : Nat) : Nat → List Nat
  | 0 => []
  | k + 1 => low b n k ++ [dg b n k]

theorem low_length (b n k : Nat) : (low b n k).length = k := by
  induction k with
  | zero => rfl
  | succ k ih => simp [low, ih]

theorem low_dig (b n k : Nat) (hb : 2 ≤ b) : Dig b (low b n k) := by
  induction k with
  | zero => exact Dig.nil b
  | succ k ih => exact ih.append (fun x hx => by simp at hx; subst hx; exact Nat.mod_lt _ (by omega))

theorem val_low (b n k : Nat) : val b (low b n k) = n % b ^ k := by
  induction k with
  | zero => simp [low, val, Nat.mod_one]
  | succ k ih =>
    rw [low, val_append, ih, low_length, Nat.pow_succ, Nat.mod_mul]
    simp [val, dg]

theorem low_get (b n k i : Nat) (h : i < k) : (low b n k)[i]? = some (dg b n i) := by
  induction k with
  | zero => omega
  | succ k ih =>
    rw [low]
    by_cases hi : i < k
    · rw [List.getElem?_append_left (by rw [low_length]; exact hi), ih hi]
    · obtain rfl : i = k := by omega
      rw [List.getElem?_append_right (by rw [low_length]; omega), low_length]; simp

/-- numbers by their digits -/
theorem val_take (b : Nat) (hb : 2 ≤ b) {xs : List Nat} (h : Dig b xs) (i : Nat) : val b (xs.take i) = val b xs % b ^ i := by
  by_cases hi : i ≤ xs.length
  · have e : xs = xs.take i ++ xs.drop i := (List.take_append_drop i xs).symm
    have hl : (xs.take i).length = i := by simp; omega
    have := val_lt (b := b) (by omega) (h.take i)
    rw [hl] at this
    conv => rhs; rw [e, val_append, hl, Nat.add_mul_mod_self_left, Nat.mod_eq_of_lt this]
  · have := val_lt (b := b) (by omega) h
    rw [List.take_of_length_le (by omega), Nat.mod_eq_of_lt]
    exact Nat.lt_of_lt_of_le this (Nat.pow_le_pow_right (by omega) (by omega))

theorem mod_succ (b n i : Nat) : n % b ^ (i + 1) = n % b ^ i + b ^ i * dg b n i := by
  rw [Nat.pow_succ, Nat.mod_mul]; rfl

theorem dg_lt (b n i : Nat) (hb : 0 < b) : dg b n i < b := Nat.mod_lt _ hb

/-- 0s at the end -/
theorem val_trim (b : Nat) (hb : 2 ≤ b) {xs : List Nat} (h : Dig b xs) (n : Nat) (hz : ∀ j, n ≤ j → xs[j]?.getD 0 = 0) : val b (xs.take n) = val b xs := by
  rw [val_take b hb h]
  apply Nat.mod_eq_of_lt
  have key : ∀ k, val b xs < b ^ (n + k) → val b xs < b ^ n := by
    intro k
    induction k with
    | zero => intro h; simpa using h
    | succ k ih =>
      intro hk
      apply ih
      have h0 := hz (n + k) (by omega)
      rw [getD_dg b hb h, dg] at h0
      have h1 : val b xs / b ^ (n + k) < b := by
        rw [Nat.div_lt_iff_lt_mul (Nat.pow_pos (by omega)), Nat.mul_comm, ← Nat.pow_succ]; exact hk
      rw [Nat.mod_eq_of_lt h1] at h0
      have p : 0 < b ^ (n + k) := Nat.pow_pos (by omega)
      rcases Nat.lt_or_ge (val b xs) (b ^ (n + k)) with h2 | h2
      · exact h2
      · have := Nat.div_pos h2 p; omega
  have := val_lt (b := b) (by omega) h
  apply key xs.length
  exact Nat.lt_of_lt_of_le this (Nat.pow_le_pow_right (by omega) (by omega))

/-- what the trimming loop finds -/
theorem trim_done (b : Nat) (hb : 2 ≤ b) {xs : List Nat} (h : Dig b xs) (n : Nat) (hn : n ≤ xs.length) (hz : ∀ j, n ≤ j → xs[j]?.getD 0 = 0) (hl : n = 0 ∨ xs[n - 1]?.getD 0 ≠ 0) :
    xs.take n = digs b (val b xs) := by
  rw [← val_trim b hb h n hz]
  refine (digs_val b hb (h.take n) ?_).symm
  intro hne
  rcases hl with rfl | hl
  · simp at hne
  · have h0 : n ≠ 0 := by rintro rfl; simp at hne
    have : (xs.take n).getLast hne = xs[n - 1]?.getD 0 := by
      rw [List.getLast_eq_getElem]
      simp [List.getElem_take]
      have hlen : min n xs.length = n := by omega
      simp [hlen]
      rw [List.getElem?_eq_getElem (by omega)]; rfl
    rw [this]; exact hl

/-! ### sums, differences -/
def cin (b x y i : Nat) : Nat := (x % b ^ i + y % b ^ i) / b ^ i

theorem cin_zero (b x y : Nat) : cin b x y 0 = 0 := by simp [cin, Nat.mod_one]

theorem cin_le (b x y i : Nat) (hb : 0 < b) : cin b x y i ≤ 1 := by
  have p : 0 < b ^ i := Nat.pow_pos hb
  have h1 := Nat.mod_lt x p
  have h2 := Nat.mod_lt y p
  unfold cin
  have : (x % b ^ i + y % b ^ i) / b ^ i < 2 := by rw [Nat.div_lt_iff_lt_mul p]; omega
  omega

theorem add_step (b x y i : Nat) (hb : 2 ≤ b) :
    (dg b x i + dg b y i + cin b x y i) % b = dg b (x + y) i ∧ (dg b x i + dg b y i + cin b x y i) / b = cin b x y (i + 1) := by
  have p : 0 < b ^ i := Nat.pow_pos (by omega)
  have ex := Nat.div_add_mod x (b ^ i)
  have ey := Nat.div_add_mod y (b ^ i)
  have e1 : (x + y) / b ^ i = x / b ^ i + y / b ^ i + cin b x y i := by
    unfold cin
    conv => lhs; rw [← ex, ← ey]
    rw [show b ^ i * (x / b ^ i) + x % b ^ i + (b ^ i * (y / b ^ i) + y % b ^ i) = (x % b ^ i + y % b ^ i) + b ^ i * (x / b ^ i + y / b ^ i) by rw [Nat.mul_add]; omega,
      Nat.add_mul_div_left _ _ p]; omega
  constructor
  · rw [dg, dg, dg, e1]
    simp [Nat.add_mod]
  · have hx := mod_succ b x i
    have hy := mod_succ b y i
    unfold cin
    rw [hx, hy, Nat.pow_succ, ← Nat.div_div_eq_div_mul,
      show x % b ^ i + b ^ i * dg b x i + (y % b ^ i + b ^ i * dg b y i) = (x % b ^ i + y % b ^ i) + b ^ i * (dg b x i + dg b y i) by rw [Nat.mul_add]; omega,
      Nat.add_mul_div_left _ _ p, Nat.add_comm]

def bin (b x y i : Nat) : Nat := if x % b ^ i < y % b ^ i then 1 else 0
theorem bin_zero (b x y : Nat) : bin b x y 0 = 0 := by simp [bin, Nat.mod_one]
theorem bin_le (b x y i : Nat) : bin b x y i ≤ 1 := by unfold bin; split <;> omega

/-- the digit of a difference, and what is borrowed next -/
theorem sub_step (b x y i : Nat) (hb : 2 ≤ b) (h : y ≤ x) :
    (dg b x i + b - dg b y i - bin b x y i) % b = dg b (x - y) i ∧ (if dg b x i < dg b y i + bin b x y i then 1 else 0) = bin b x y (i + 1) := by
  have p : 0 < b ^ i := Nat.pow_pos (by omega)
  have hx := mod_succ b x i
  have hy := mod_succ b y i
  have lx := Nat.mod_lt x p
  have ly := Nat.mod_lt y p
  have dx := dg_lt b x i (by omega)
  have dy := dg_lt b y i (by omega)
  constructor
  · have ex := Nat.div_add_mod x (b ^ i)
    have ey := Nat.div_add_mod y (b ^ i)
    have e1 : (x - y) / b ^ i = x / b ^ i - y / b ^ i - bin b x y i := by
      unfold bin
      have hq : y / b ^ i ≤ x / b ^ i := Nat.div_le_div_right h
      obtain ⟨d, hd⟩ : ∃ d, x / b ^ i = y / b ^ i + d := ⟨x / b ^ i - y / b ^ i, by omega⟩
      have hm : b ^ i * (x / b ^ i) = b ^ i * (y / b ^ i) + b ^ i * d := by rw [hd, Nat.mul_add]
      clear hx hy
      generalize x % b ^ i = rx at *
      generalize y % b ^ i = ry at *
      split
      · have d1 : 1 ≤ d := by
          rcases Nat.eq_zero_or_pos d with h0 | h0
          · subst h0; simp at hm; omega
          · exact h0
        obtain ⟨c, rfl⟩ : ∃ c, d = c + 1 := ⟨d - 1, by omega⟩
        have hm2 : b ^ i * (c + 1) = b ^ i * c + b ^ i := by rw [Nat.mul_succ]
        have : x - y = (rx + b ^ i - ry) + b ^ i * c := by omega
        rw [this, Nat.add_mul_div_left _ _ p, Nat.div_eq_of_lt (by omega)]; omega
      · have : x - y = (rx - ry) + b ^ i * d := by omega
        rw [this, Nat.add_mul_div_left _ _ p, Nat.div_eq_of_lt (by omega)]; omega
    have hq : y / b ^ i + bin b x y i ≤ x / b ^ i := by
      have hq : y / b ^ i ≤ x / b ^ i := Nat.div_le_div_right h
      unfold bin
      split
      · rcases Nat.lt_or_ge (y / b ^ i) (x / b ^ i) with h' | h'
        · omega
        · have : x / b ^ i = y / b ^ i := by omega
          rw [this] at ex
          clear hx hy e1
          generalize x % b ^ i = rx at *
          generalize y % b ^ i = ry at *
          omega
      · omega
    rw [dg, dg, dg, e1]
    have m1 := Nat.div_add_mod (x / b ^ i) b
    have m2 := Nat.div_add_mod (y / b ^ i) b
    have hbi := bin_le b x y i
    have l1 := Nat.mod_lt (x / b ^ i) (show 0 < b by omega)
    have l2 := Nat.mod_lt (y / b ^ i) (show 0 < b by omega)
    generalize bin b x y i = c at *
    generalize x / b ^ i = X at *
    generalize y / b ^ i = Y at *
    -- X - Y - c, by the residues
    have : (X - Y - c) % b = (X % b + b - Y % b - c) % b := by
      have e2 : X - Y - c + b * (Y / b + 1) = (X % b + b - Y % b - c) + b * (X / b) := by
        have : b * (Y / b + 1) = b * (Y / b) + b := by rw [Nat.mul_succ]
        omega
      have := congrArg (· % b) e2
      simpa [Nat.add_mul_mod_self_left] using this
    exact this.symm
  · unfold bin
    rw [hx, hy]
    clear hx hy
    generalize x % b ^ i = rx at *
    generalize y % b ^ i = ry at *
    by_cases h1 : dg b x i < dg b y i
    · have : b ^ i * (dg b x i + 1) ≤ b ^ i * dg b y i := Nat.mul_le_mul_left _ h1
      rw [Nat.mul_succ] at this
      rw [if_pos (by split <;> omega), if_pos (by omega)]
    · by_cases h2 : dg b x i = dg b y i
      · rw [h2]
        by_cases h3 : rx < ry
        · rw [if_pos h3, if_pos (by omega), if_pos (by omega)]
        · rw [if_neg h3, if_neg (by omega), if_neg (by omega)]
      · have : b ^ i * (dg b y i + 1) ≤ b ^ i * dg b x i := Nat.mul_le_mul_left _ (by omega)
        rw [Nat.mul_succ] at this
        rw [if_neg (by split <;> omega), if_neg (by omega)]

/-! ### the order, by the highest digit that differs -/
theorem lt_of_dg (b : Nat) (hb : 2 ≤ b) (x y i : Nat) (hi : ∀ j, i < j → dg b x j = dg b y j) (hd : dg b x i < dg b y i) : x < y := by
  have key : ∀ k, x % b ^ (i + 1 + k) < y % b ^ (i + 1 + k) := by
    intro k
    induction k with
    | zero =>
      rw [Nat.add_zero, mod_succ, mod_succ]
      have p : 0 < b ^ i := Nat.pow_pos (by omega)
      have := Nat.mod_lt x p
      have q := Nat.mod_lt y p
      have : b ^ i * (dg b x i + 1) ≤ b ^ i * dg b y i := Nat.mul_le_mul_left _ hd
      rw [Nat.mul_succ] at this
      generalize x % b ^ i = rx at *
      generalize y % b ^ i = ry at *
      omega
    | succ k ih =>
      rw [← Nat.add_assoc, mod_succ, mod_succ, hi (i + 1 + k) (by omega)]; omega
  have hx : x < b ^ (i + 1 + (x + y)) := Nat.lt_of_lt_of_le (Nat.lt_pow_self (by omega : 1 < b)) (Nat.pow_le_pow_right (by omega) (by omega))
  have hy : y < b ^ (i + 1 + (x + y)) := Nat.lt_of_lt_of_le (Nat.lt_pow_self (by omega : 1 < b)) (Nat.pow_le_pow_right (by omega) (by omega))
  have := key (x + y)
  rw [Nat.mod_eq_of_lt hx, Nat.mod_eq_of_lt hy] at this
  exact this

theorem eq_of_dg (b : Nat) (hb : 2 ≤ b) (x y : Nat) (h : ∀ j, dg b x j = dg b y j) : x = y := by
  have key : ∀ k, x % b ^ k = y % b ^ k := by
    intro k
    induction k with
    | zero => simp [Nat.mod_one]
    | succ k ih => rw [mod_succ, mod_succ, ih, h k]
  have hx : x < b ^ (x + y) := Nat.lt_of_lt_of_le (Nat.lt_pow_self (by omega : 1 < b)) (Nat.pow_le_pow_right (by omega) (by omega))
  have hy : y < b ^ (x + y) := Nat.lt_of_lt_of_le (Nat.lt_pow_self (by omega : 1 < b)) (Nat.pow_le_pow_right (by omega) (by omega))
  have := key (x + y)
  rw [Nat.mod_eq_of_lt hx, Nat.mod_eq_of_lt hy] at this
  exact this

theorem dg_big (b n i : Nat) (h : n < b ^ i) : dg b n i = 0 := by rw [dg, Nat.div_eq_of_lt h]; simp

end Go.Proofs.NP
/- Plain arithmetic, more: products digit by digit, shifts, lengths, single bits: no program in sight. -/
namespace Go.Proofs.NP
set_option linter.unusedVariables false

/-- a digit written over -/
theorem val_set (b : Nat) : ∀ (xs : List Nat) (j v : Nat), j < xs.length → val b (xs.set j v) + xs[j]?.getD 0 * b ^ j = val b xs + v * b ^ j := by
  intro xs
  induction xs with
  | nil => intro j v h; simp at h
  | cons x xs ih =>
    intro j v h
    cases j with
    | zero => simp [val]; omega
    | succ j =>
      have := ih j v (by simpa using h)
      simp only [List.set_cons_succ, val, List.getElem?_cons_succ, Nat.pow_succ']
      have e : b * (val b (xs.set j v) + xs[j]?.getD 0 * b ^ j) = b * (val b xs + v * b ^ j) := by rw [this]
      rw [Nat.mul_add, Nat.mul_add, Nat.mul_left_comm, Nat.mul_left_comm b v] at e
      omega

theorem Dig.set {b : Nat} {xs : List Nat} (h : Dig b xs) (j v : Nat) (hv : v < b) : Dig b (xs.set j v) := by
  intro x hx
  rcases List.mem_or_eq_of_mem_set hx with h' | h'
  · exact h x h'
  · subst h'; exact hv

theorem Dig.zeros {b : Nat} (hb : 0 < b) (n : Nat) : Dig b (List.replicate n 0) := by
  intro x hx; rw [List.mem_replicate] at hx; omega

/-- one step of a product's row: x times a digit, what is over, and what stands there -/
theorem row_step (b : Nat) (hb : 2 ≤ b) (x y over o : Nat) (hx : x < b) (hy : y < b) (hv : over < b) (ho : o < b) :
    (x * y + over + o) / b < b := by
  rw [Nat.div_lt_iff_lt_mul (by omega)]
  have h1 : x * y ≤ (b - 1) * (b - 1) := Nat.mul_le_mul (by omega) (by omega)
  obtain ⟨c, rfl⟩ : ∃ c, b = c + 1 := ⟨b - 1, by omega⟩
  have h2 : (c + 1) * (c + 1) = c * c + c + c + 1 := by rw [Nat.mul_succ, Nat.succ_mul]; omega
  simp only [Nat.add_sub_cancel] at h1
  omega

/-- what holds inside a row of a product: os at the row's start, now os', k digits are done -/
structure Row (b : Nat) (os os' : List Nat) (x : Nat) (ys : List Nat) (i k over : Nat) : Prop where
  len : os'.length = os.length
  dig : Dig b os'
  ov : over < b
  v : val b os' + over * b ^ (i + k) = val b os + x * val b (ys.take k) * b ^ i
  tail : ∀ j, i + k ≤ j → os'[j]? = os[j]?

theorem Row.start {b : Nat} {os : List Nat} {x : Nat} {ys : List Nat} {i : Nat} (hb : 2 ≤ b) (h : Dig b os) : Row b os os x ys i 0 0 :=
  ⟨rfl, h, by omega, by simp [val], fun _ _ => rfl⟩

theorem val_take_succ (b : Nat) (ys : List Nat) (k : Nat) (h : k < ys.length) : val b (ys.take (k + 1)) = val b (ys.take k) + ys[k] * b ^ k := by
  rw [List.take_succ_eq_append_getElem h, val_append]
  simp [val, Nat.min_eq_left (Nat.le_of_lt h), Nat.mul_comm]

theorem Row.next {b : Nat} {os os' : List Nat} {x : Nat} {ys : List Nat} {i k over : Nat} (hb : 2 ≤ b) (R : Row b os os' x ys i k over) (hx : x < b) (hys : Dig b ys) (hk : k < ys.length) (hl : i + k < os.length) :
    Row b os (os'.set (i + k) ((x * ys[k] + over + os'[i + k]?.getD 0) % b)) x ys i (k + 1) ((x * ys[k] + over + os'[i + k]?.getD 0) / b) := by
  have ho : os'[i + k]?.getD 0 < b := R.dig.getD (by omega) _
  refine ⟨by simp [R.len], R.dig.set _ _ (Nat.mod_lt _ (by omega)), row_step b hb _ _ _ _ hx (hys.get k hk) R.ov ho, ?_, ?_⟩
  · have s := val_set b os' (i + k) ((x * ys[k] + over + os'[i + k]?.getD 0) % b) (by rw [R.len]; exact hl)
    have v := R.v
    rw [val_take_succ b ys k hk, Nat.mul_add, Nat.add_mul]
    have e := Nat.mod_add_div (x * ys[k] + over + os'[i + k]?.getD 0) b
    generalize os'[i + k]?.getD 0 = o at *
    generalize (x * ys[k] + over + o) % b = m at *
    generalize (x * ys[k] + over + o) / b = q at *
    have p1 : b ^ (i + (k + 1)) = b * b ^ (i + k) := by rw [← Nat.add_assoc, Nat.pow_succ']
    have p2 : x * (ys[k] * b ^ k) * b ^ i = x * ys[k] * b ^ (i + k) := by rw [Nat.pow_add, Nat.mul_assoc, Nat.mul_assoc, Nat.mul_assoc, Nat.mul_comm (b ^ k)]
    have e2 : m * b ^ (i + k) + q * (b * b ^ (i + k)) = x * ys[k] * b ^ (i + k) + over * b ^ (i + k) + o * b ^ (i + k) := by
      rw [← Nat.add_mul, ← Nat.add_mul, ← e, Nat.add_mul, Nat.mul_comm b q, Nat.mul_assoc q]
    rw [p1, p2]
    omega
  · intro j hj
    rw [List.getElem?_set_ne (by omega)]
    exact R.tail j (by omega)

/-- a row is over: what is over is written behind it -/
theorem Row.done {b : Nat} {os os' : List Nat} {x : Nat} {ys : List Nat} {i over : Nat} (hb : 2 ≤ b) (R : Row b os os' x ys i ys.length over) (hl : i + ys.length < os.length) (h0 : os[i + ys.length]?.getD 0 = 0) :
    (os'.set (i + ys.length) over).length = os.length ∧ Dig b (os'.set (i + ys.length) over) ∧ val b (os'.set (i + ys.length) over) = val b os + x * val b ys * b ^ i := by
  have s := val_set b os' (i + ys.length) over (by rw [R.len]; exact hl)
  have v := R.v
  rw [R.tail _ (Nat.le_refl _), h0] at s
  rw [List.take_length] at v
  exact ⟨by simp [R.len], R.dig.set _ _ R.ov, by omega⟩

/-- what holds between the rows -/
structure Rows (b : Nat) (os xs ys : List Nat) (i : Nat) : Prop where
  len : os.length = xs.length + ys.length
  dig : Dig b os
  v : val b os = val b (xs.take i) * val b ys

theorem Rows.zero {b : Nat} {xs ys os : List Nat} {i : Nat} (hb : 2 ≤ b) (R : Rows b os xs ys i) (hx : Dig b xs) (hy : Dig b ys) (hi : i < xs.length) : os[i + ys.length]?.getD 0 = 0 := by
  rw [getD_dg b hb R.dig, R.v, dg_big]
  have h1 := val_lt (b := b) (by omega) (hx.take i)
  have h2 := val_lt (b := b) (by omega) hy
  rw [List.length_take, Nat.min_eq_left (by omega)] at h1
  rw [Nat.pow_add]
  exact Nat.mul_lt_mul'' h1 h2

theorem Rows.next {b : Nat} {xs ys os os' : List Nat} {i over : Nat} (hb : 2 ≤ b) (R : Rows b os xs ys i) (hx : Dig b xs) (hy : Dig b ys) (hi : i < xs.length) (T : Row b os os' xs[i] ys i ys.length over) :
    Rows b (os'.set (i + ys.length) over) xs ys (i + 1) := by
  obtain ⟨d1, d2, d3⟩ := T.done hb (by rw [R.len]; omega) (R.zero hb hx hy hi)
  refine ⟨by rw [d1, R.len], d2, ?_⟩
  rw [d3, R.v, val_take_succ b xs i hi, Nat.add_mul]
  congr 1
  rw [Nat.mul_right_comm]

theorem Rows.done {b : Nat} {xs ys os : List Nat} (R : Rows b os xs ys xs.length) : val b os = val b xs * val b ys := by
  have := R.v; rwa [List.take_length] at this

/-! ### the length, single bits -/
theorem bitLen_zero : bitLen 0 = 0 := rfl
theorem bitLen_val (xs : List Nat) (h : Dig 18446744073709551616 xs) (i : Nat) (hz : ∀ j, i < j → xs[j]?.getD 0 = 0) (hi : xs[i]?.getD 0 ≠ 0) :
    bitLen (val 18446744073709551616 xs) = i * 64 + bitLen (xs[i]?.getD 0) := by
  have e : val 18446744073709551616 xs / 18446744073709551616 ^ i = xs[i]?.getD 0 := by
    have t := val_trim _ (by decide) h (i + 1) (fun j hj => hz j (by omega))
    have lt := val_lt (b := 18446744073709551616) (by decide) (h.take (i + 1))
    rw [t] at lt
    have lt : val 18446744073709551616 xs < 18446744073709551616 ^ (i + 1) := Nat.lt_of_lt_of_le lt (Nat.pow_le_pow_right (by decide) (by simp; omega))
    rw [getD_dg _ (by decide) h, dg, Nat.mod_eq_of_lt]
    rw [Nat.div_lt_iff_lt_mul (Nat.pow_pos (by decide)), Nat.mul_comm, ← Nat.pow_succ]; exact lt
  have p : 18446744073709551616 ^ i = 2 ^ (i * 64) := by rw [Nat.mul_comm, Nat.pow_mul]
  rw [p] at e
  rw [bitLen_shift _ (i * 64) (by rw [e]; exact hi), e]

theorem val_zero_of (b : Nat) (hb : 2 ≤ b) {xs : List Nat} (h : Dig b xs) (hz : ∀ j : Nat, xs[j]?.getD 0 = 0) : val b xs = 0 := by
  rw [← val_trim b hb h 0 (fun j _ => hz j)]; rfl

theorem bitLen_le_iff (n k : Nat) : bitLen n ≤ k ↔ n < 2 ^ k := by
  obtain ⟨h1, h2⟩ := bitLen_spec n
  constructor
  · intro h; exact Nat.lt_of_lt_of_le h1 (Nat.pow_le_pow_right (by decide) h)
  · intro h
    by_cases hn : n = 0
    · subst hn; simp [bitLen_zero]
    · have h2 := h2 hn
      have : 2 ^ (bitLen n - 1) < 2 ^ k := by omega
      have := (Nat.pow_lt_pow_iff_right (by decide : 1 < 2)).1 this
      omega

theorem bitLen_pos (n : Nat) (h : n ≠ 0) : 0 < bitLen n := by
  rcases Nat.eq_zero_or_pos (bitLen n) with h0 | h0
  · have := (bitLen_le_iff n 0).1 (by omega); simp at this; omega
  · exact h0

theorem bitLen_unique (n k : Nat) (h1 : 2 ^ k ≤ n) (h2 : n < 2 ^ (k + 1)) : bitLen n = k + 1 := by
  have a := (bitLen_le_iff n (k + 1)).2 h2
  have : ¬ bitLen n ≤ k := by rw [bitLen_le_iff]; omega
  omega

theorem bitLen_mono {m n : Nat} (h : m ≤ n) : bitLen m ≤ bitLen n := by
  rw [bitLen_le_iff]; exact Nat.lt_of_le_of_lt h ((bitLen_le_iff n _).1 (Nat.le_refl _))

/-- a bit of a number, by its digit -/
theorem bit_dg (b e n k r : Nat) (hb : b = 2 ^ e) (hr : r < e) : dg b n k / 2 ^ r % 2 = n / 2 ^ (k * e + r) % 2 := by
  subst hb
  rw [dg, ← Nat.pow_mul, Nat.mul_comm e k]
  have : 2 ^ e = 2 ^ r * 2 ^ (e - r) := by rw [← Nat.pow_add]; congr 1; omega
  rw [this, Nat.mod_mul_right_div_self, Nat.div_div_eq_div_mul, ← Nat.pow_add]
  have : 2 ^ (e - r) = 2 * 2 ^ (e - r - 1) := by rw [← Nat.pow_succ']; congr 1; omega
  rw [this, Nat.mod_mul_right_mod]

theorem mod_key (x A R : Nat) : x % (R * A) * A % (R * A) = x % R * A := by
  rw [Nat.mul_mod_mul_right, Nat.mod_mul_right_mod]

/-- a digit of a shifted number, by two digits of the number -/
theorem shr_dg (e n q r i : Nat) (he : 0 < e) (hr : r < e) :
    dg (2 ^ e) (n / 2 ^ (q * e + r)) i = dg (2 ^ e) n (i + q) / 2 ^ r + dg (2 ^ e) n (i + q + 1) * 2 ^ (e - r) % 2 ^ e := by
  have p : 2 ^ e = 2 ^ (e - r) * 2 ^ r := by rw [← Nat.pow_add]; congr 1; omega
  have p0 : 0 < 2 ^ r := Nat.two_pow_pos r
  have e1 : n / 2 ^ (q * e + r) / (2 ^ e) ^ i = n / (2 ^ e) ^ (i + q) / 2 ^ r := by
    rw [← Nat.pow_mul, ← Nat.pow_mul, Nat.div_div_eq_div_mul, Nat.div_div_eq_div_mul, ← Nat.pow_add, ← Nat.pow_add]
    congr 2
    rw [Nat.mul_add, Nat.mul_comm e i, Nat.mul_comm e q]; omega
  have e2 : n / (2 ^ e) ^ (i + q + 1) = n / (2 ^ e) ^ (i + q) / 2 ^ e := by rw [Nat.pow_succ, Nat.div_div_eq_div_mul]
  unfold dg
  rw [e1, e2]
  generalize n / (2 ^ e) ^ (i + q) = m
  -- m / 2^r mod 2^e = (m mod 2^e) / 2^r + (m / 2^e mod 2^e) * 2^(e-r) mod 2^e
  have q1 : m / 2 ^ e % 2 ^ e * 2 ^ (e - r) % 2 ^ e = m / 2 ^ e % 2 ^ r * 2 ^ (e - r) := by
    have key := mod_key (m / 2 ^ e) (2 ^ (e - r)) (2 ^ r)
    rw [Nat.mul_comm (2 ^ r), ← p] at key
    exact key
  rw [q1]
  have q2 : m / 2 ^ r % 2 ^ e = m / 2 ^ r % 2 ^ (e - r) + 2 ^ (e - r) * (m / 2 ^ r / 2 ^ (e - r) % 2 ^ r) := by
    conv => lhs; rw [p]
    rw [Nat.mod_mul]
  rw [q2, Nat.div_div_eq_div_mul, ← Nat.pow_add, show r + (e - r) = e by omega, Nat.mul_comm (2 ^ (e - r))]
  congr 1
  have : m % 2 ^ e / 2 ^ r = m / 2 ^ r % 2 ^ (e - r) := by
    rw [p, Nat.mul_comm (2 ^ (e - r)), Nat.mod_mul_right_div_self]
  omega

end Go.Proofs.NP
/- Slices of 64-bit words as lists of naturals: what a slice reads as, what a call owns, and how both stand over a growing world. No program in sight. -/
namespace Go.Proofs.SL
open Go.RowKit
open Go.Proofs.NP
set_option linter.unusedVariables false

/-- the natural of limbs -/
def V (xs : List Nat) : Nat := val 18446744073709551616 xs
/-- a natural's limbs -/
def L (n : Nat) : List Nat := digs 18446744073709551616 n
/-- 64-bit words, all of them -/
def Ws (xs : List Nat) : Prop := Dig 18446744073709551616 xs

theorem V_L (n : Nat) : V (L n) = n := val_digs _ (by decide) n
theorem L_inj {m n : Nat} (h : L m = L n) : m = n := digs_inj _ (by decide) h
theorem Ws_L (n : Nat) : Ws (L n) := dig_digs _ (by decide) n
theorem L_V {xs : List Nat} (h : Ws xs) (hl : ∀ h : xs ≠ [], xs.getLast h ≠ 0) : L (V xs) = xs := digs_val _ (by decide) h hl
theorem L_zero : L 0 = [] := rfl
theorem L_len (n k : Nat) (h : n < 18446744073709551616 ^ k) : (L n).length ≤ k := digs_length_le _ (by decide) k n h
theorem V_lt {xs : List Nat} (h : Ws xs) : V xs < 18446744073709551616 ^ xs.length := val_lt (by decide) h
theorem L_V_len {xs : List Nat} (h : Ws xs) : (L (V xs)).length ≤ xs.length := L_len _ _ (V_lt h)
theorem L_nil (n : Nat) : L n = [] ↔ n = 0 := by
  constructor
  · intro h; have := V_L n; rw [h] at this; exact this.symm
  · rintro rfl; rfl
theorem V_dg {xs : List Nat} (h : Ws xs) (i : Nat) : xs[i]?.getD 0 = dg 18446744073709551616 (V xs) i := getD_dg _ (by decide) h i

/-- a word as the cell that holds it -/
def enc (x : Nat) : Value := .int .u64 (x : Int)

/-- a slice of words, below block H, reads xs -/
structure Sl (H : Nat) (w : World) (a : Option Addr) (cap : Nat) (xs : List Nat) : Prop where
  dig : Ws xs
  le : xs.length ≤ cap
  max : cap ≤ maxLen
  at' : xs = [] ∨ ∃ b off, a = some ⟨b, off, none⟩ ∧ b < H ∧ ∀ i (h : i < xs.length), w.cell? ⟨b, off + i, none⟩ = some (.int .u64 (xs[i] : Int))

theorem Sl.below {H B : Nat} {w w' : World} {a : Option Addr} {cap : Nat} {xs : List Nat} (h : Sl H w a cap xs) (hb : Below B w w') (hH : H ≤ B) : Sl H w' a cap xs := by
  refine ⟨h.dig, h.le, h.max, ?_⟩
  rcases h.at' with h' | ⟨b, off, rfl, hlt, hc⟩
  · exact .inl h'
  · exact .inr ⟨b, off, rfl, hlt, fun i hi => by rw [hb.cell (p := ⟨b, off + i, none⟩) (by show b < B; omega)]; exact hc i hi⟩

theorem Sl.mono {H H' : Nat} {w : World} {a : Option Addr} {cap : Nat} {xs : List Nat} (h : Sl H w a cap xs) (hH : H ≤ H') : Sl H' w a cap xs := by
  refine ⟨h.dig, h.le, h.max, ?_⟩
  rcases h.at' with h' | ⟨b, off, rfl, hlt, hc⟩
  · exact .inl h'
  · exact .inr ⟨b, off, rfl, by omega, hc⟩

/-- a slice of the call's own: it begins a block from B on -/
structure Own (e : TypeId) (B : Nat) (w : World) (a : Option Addr) (cap : Nat) (xs : List Nat) : Prop where
  dig : Ws xs
  row : w.ownsRow B e 1 (.slice a xs.length cap) xs.length (xs.map enc)

theorem Own.cases {e : TypeId} {B : Nat} {w : World} {a : Option Addr} {cap : Nat} {xs : List Nat} (h : Own e B w a cap xs) :
    (a = none ∧ cap = 0 ∧ xs = []) ∨ ∃ g, a = some ⟨g, 0, none⟩ ∧ B ≤ g ∧ g < w.heap.size ∧ xs.length ≤ cap ∧ cap ≤ maxLen := by
  rcases h.row.2 with ⟨hv, hn⟩ | ⟨g, cap', cur, hv, hb, hg, hnc, hcm, hcs, ht⟩
  · simp only [Value.slice.injEq] at hv
    exact .inl ⟨hv.1, hv.2.2, List.eq_nil_of_length_eq_zero hn⟩
  · simp only [Value.slice.injEq] at hv
    obtain ⟨rfl, _, rfl⟩ := hv
    exact .inr ⟨g, rfl, hb, (Array.getElem?_eq_some_iff.1 hg).1, hnc, hcm⟩

theorem Own.sl {e : TypeId} {B : Nat} {w : World} {a : Option Addr} {cap : Nat} {xs : List Nat} (h : Own e B w a cap xs) : Sl w.heap.size w a cap xs := by
  rcases h.cases with ⟨rfl, rfl, rfl⟩ | ⟨g, rfl, hb, hg, hnc, hcm⟩
  · exact ⟨Dig.nil _, by simp, by simp, .inl rfl⟩
  · refine ⟨h.dig, hnc, hcm, .inr ⟨g, 0, rfl, hg, fun i hi => ?_⟩⟩
    rw [Nat.zero_add, h.row.cellAt i (by omega)]
    simp [hi, enc]

theorem Own.mono {e : TypeId} {B B' : Nat} {w : World} {a : Option Addr} {cap : Nat} {xs : List Nat} (h : Own e B w a cap xs) (hB : B' ≤ B) : Own e B' w a cap xs := by
  refine ⟨h.dig, h.row.1, ?_⟩
  rcases h.row.2 with h' | ⟨g, cap', cur, hv, hb, r⟩
  · exact .inl h'
  · exact .inr ⟨g, cap', cur, hv, by omega, r⟩

/-- what is owned stays so while blocks are laid behind, or others are written -/
theorem Own.kept {e : TypeId} {B : Nat} {w w' : World} {a : Option Addr} {cap : Nat} {xs : List Nat} {row : Option Nat} (h : Own e B w a cap xs) (hg : w.grownBy w' row) (hne : ∀ g, a = some ⟨g, 0, none⟩ → some g ≠ row) : Own e B w' a cap xs := by
  refine ⟨h.dig, h.row.1, ?_⟩
  rcases h.row.2 with h' | ⟨g, cap', cur, hv, hb, hgg, r⟩
  · exact .inl h'
  · have hv' := hv
    simp only [Value.slice.injEq] at hv'
    obtain ⟨rfl, _, rfl⟩ := hv'
    exact .inr ⟨g, cap, cur, hv, hb, (hg.block g (Array.getElem?_eq_some_iff.1 hgg).1 (hne g rfl)).trans hgg, r⟩

theorem Own.below {e : TypeId} {B C : Nat} {w w' : World} {a : Option Addr} {cap : Nat} {xs : List Nat} (h : Own e B w a cap xs) (hb : Below C w w') (hC : w.heap.size ≤ C) : Own e B w' a cap xs := by
  refine ⟨h.dig, h.row.1, ?_⟩
  rcases h.row.2 with h' | ⟨g, cap', cur, hv, hbg, hgg, r⟩
  · exact .inl h'
  · exact .inr ⟨g, cap', cur, hv, hbg, (hb.block g (by have := (Array.getElem?_eq_some_iff.1 hgg).1; omega)).trans hgg, r⟩

/-- below its own block, too -/
theorem Own.below_lt {e : TypeId} {B C : Nat} {w w' : World} {a : Option Addr} {cap : Nat} {xs : List Nat} (h : Own e B w a cap xs) (hb : Below C w w') (hC : ∀ g, a = some ⟨g, 0, none⟩ → g < C) : Own e B w' a cap xs := by
  refine ⟨h.dig, h.row.1, ?_⟩
  rcases h.row.2 with h' | ⟨g, cap', cur, hv, hbg, hgg, r⟩
  · exact .inl h'
  · have hv' := hv
    simp only [Value.slice.injEq] at hv'
    obtain ⟨rfl, _, rfl⟩ := hv'
    exact .inr ⟨g, cap, cur, hv, hbg, (hb.block g (hC g rfl)).trans hgg, r⟩

/-- the first ones of what is owned -/
theorem Own.take {e : TypeId} {B : Nat} {w : World} {a : Option Addr} {cap : Nat} {xs : List Nat} (h : Own e B w a cap xs) (n : Nat) (hn : n ≤ xs.length) : Own e B w a cap (xs.take n) := by
  refine ⟨h.dig.take n, by simp, ?_⟩
  have hl : (xs.take n).length = n := by simp; omega
  rw [hl]
  rcases h.row.2 with ⟨hv, h0⟩ | ⟨g, cap', cur, hv, hbg, hgg, hnc, hcm, hcs, ht⟩
  · simp only [Value.slice.injEq] at hv
    obtain ⟨rfl, _, rfl⟩ := hv
    obtain rfl : n = 0 := by omega
    exact .inl ⟨rfl, rfl⟩
  · simp only [Value.slice.injEq] at hv
    obtain ⟨rfl, _, rfl⟩ := hv
    refine .inr ⟨g, cap, cur, rfl, hbg, hgg, by omega, hcm, hcs, ?_⟩
    rw [List.map_take, ← ht]
    simp [List.take_take, Nat.min_eq_left hn]

/-- a literal's block -/
theorem Own.lit {e : TypeId} {B : Nat} {w : World} (xs : List Nat) (hd : Ws xs) (cs : Array Value) (hcs : cs = (xs.map enc).toArray) (hb : B ≤ w.heap.size) (hm : xs.length ≤ maxLen) :
    Own e B (w.alloc (.cells cs e)) (some ⟨w.heap.size, 0, none⟩) xs.length xs := by
  subst hcs
  refine ⟨hd, ?_⟩
  have := World.ownsRow_lit (e := e) (base := B) (size := 1) w (xs.map enc).toArray xs.length hb hm (by simp)
  simpa using this

/-- the block of what is owned -/
def blk (a : Option Addr) : Option Nat := a.map (·.block)

theorem Own.store {e : TypeId} {B : Nat} {w : World} {g : Nat} {cap : Nat} {xs : List Nat} (h : Own e B w (some ⟨g, 0, none⟩) cap xs) (j x : Nat) (hx : x < 18446744073709551616) :
    Own e B (w.setCell ⟨g, j, none⟩ (.int .u64 (x : Int))) (some ⟨g, 0, none⟩) cap (xs.set j x) ∧ w.grownBy (w.setCell ⟨g, j, none⟩ (.int .u64 (x : Int))) (some g) := by
  have hr := h.row.stored j (enc x)
  refine ⟨⟨fun y hy => ?_, ?_⟩, hr.2⟩
  · rcases List.mem_or_eq_of_mem_set hy with h' | h'
    · exact h.dig y h'
    · subst h'; exact hx
  · have := hr.1
    rw [← List.map_set] at this
    rw [List.length_set]
    exact this

theorem Own.cell {e : TypeId} {B : Nat} {w : World} {g : Nat} {cap : Nat} {xs : List Nat} (h : Own e B w (some ⟨g, 0, none⟩) cap xs) (j : Nat) (hj : j < xs.length) : w.cell? ⟨g, j, none⟩ = some (.int .u64 (xs[j]?.getD 0 : Nat)) := by
  rw [h.row.cellAt j (by omega)]
  simp [hj, enc]

theorem Own.free {e : TypeId} {B : Nat} {w : World} {g : Nat} {cap : Nat} {xs : List Nat} (h : Own e B w (some ⟨g, 0, none⟩) cap xs) (j : Nat) : w.frozen? ⟨g, j, none⟩ = false := h.row.frozenAt j

theorem Own.ge {e : TypeId} {B : Nat} {w : World} {g : Nat} {cap : Nat} {xs : List Nat} (h : Own e B w (some ⟨g, 0, none⟩) cap xs) : B ≤ g ∧ g < w.heap.size := by
  rcases h.cases with ⟨h', _⟩ | ⟨g', h', h1, h2, _⟩
  · simp at h'
  · simp only [Option.some.injEq, Addr.mk.injEq, and_true] at h'
    subst h'; exact ⟨h1, h2⟩

theorem Own.cap {e : TypeId} {B : Nat} {w : World} {a : Option Addr} {cap : Nat} {xs : List Nat} (h : Own e B w a cap xs) : xs.length ≤ cap := by
  rcases h.cases with ⟨_, _, rfl⟩ | ⟨g, _, _, _, h, _⟩
  · simp
  · exact h

theorem Own.some_of {e : TypeId} {B : Nat} {w : World} {a : Option Addr} {cap : Nat} {xs : List Nat} (h : Own e B w a cap xs) (hx : xs ≠ []) : ∃ g, a = some ⟨g, 0, none⟩ ∧ B ≤ g ∧ g < w.heap.size := by
  rcases h.cases with ⟨_, _, rfl⟩ | ⟨g, h1, h2, h3, _⟩
  · exact absurd rfl hx
  · exact ⟨g, h1, h2, h3⟩

/-- a call gives a new slice that reads xs; what was there is as it was -/
def Gives (e : TypeId) (w : World) (xs : List Nat) (en : Ending) (w' : World) : Prop :=
  ∃ a cap, en = .returned (.slice a xs.length cap) ∧ Own e w.heap.size w' a cap xs ∧ Below w.heap.size w w'

end Go.Proofs.SL
/- Slices that lie in a world, read as lists of words, and how they stand over calls that only lay new blocks. No program in sight. -/
namespace Go.Proofs.SL
open Go.RowKit
open Go.Proofs.NP
set_option linter.unusedVariables false

/-- the slice lies in w and reads xs -/
def Rd (w : World) (a : Option Addr) (cap : Nat) (xs : List Nat) : Prop := Sl w.heap.size w a cap xs

theorem ws_of (xs : List Nat) (h : (xs.all fun x => decide (x < 18446744073709551616)) = true) : Ws xs := by
  intro x hx
  have := List.all_eq_true.1 h x hx
  simpa using this

/-- w' has what w had, as it was -/
def Kp (w w' : World) : Prop := Below w.heap.size w w'

theorem Rd.sl {w : World} {a : Option Addr} {cap : Nat} {xs : List Nat} (h : Rd w a cap xs) : Sl w.heap.size w a cap xs := h
theorem Rd.nx {w w' : World} {a : Option Addr} {cap : Nat} {xs : List Nat} (h : Rd w a cap xs) (hb : Kp w w') : Rd w' a cap xs :=
  (Sl.below h hb (Nat.le_refl _)).mono hb.size
theorem Rd.al {w : World} {a : Option Addr} {cap : Nat} {xs : List Nat} (h : Rd w a cap xs) (o : Obj) : Rd (w.alloc o) a cap xs := h.nx ((Below.refl _ w).alloc (Nat.le_refl _) o)
theorem Rd.dr {w : World} {a : Option Addr} {cap : Nat} {xs : List Nat} (h : Rd w a cap xs) (k : Nat) : Rd (w.drewN k) a cap xs := h.nx (below_drewN (Below.refl _ w) k)
theorem Rd.dr1 {w : World} {a : Option Addr} {cap : Nat} {xs : List Nat} (h : Rd w a cap xs) : Rd w.drew a cap xs := h.nx (Below.refl _ w).drew
theorem Rd.ws {w : World} {a : Option Addr} {cap : Nat} {xs : List Nat} (h : Rd w a cap xs) : Ws xs := h.dig
theorem Rd.nil (w : World) : Rd w none 0 [] := ⟨Dig.nil _, by simp, by simp, .inl rfl⟩
theorem Own.rd {e : TypeId} {B : Nat} {w : World} {a : Option Addr} {cap : Nat} {xs : List Nat} (h : Own e B w a cap xs) : Rd w a cap xs := h.sl
/-- a literal that was laid last -/
theorem Rd.lit {w : World} {e : TypeId} (xs : List Nat) (cs : Array Value) (hd : Ws xs) (hcs : cs = (xs.map enc).toArray) (hm : xs.length ≤ 1000000) :
    Rd (w.alloc (.cells cs e)) (some ⟨w.heap.size, 0, none⟩) xs.length xs := (Own.lit xs hd cs hcs (Nat.le_refl w.heap.size) (by unfold maxLen; omega)).rd

/-- .. at a block number that the walk has written its own way -/
theorem Rd.litn {w : World} {e : TypeId} {n : Nat} (xs : List Nat) (cs : Array Value) (hd : Ws xs) (hcs : cs = (xs.map enc).toArray) (hm : xs.length ≤ 1000000) (hn : n = w.heap.size) :
    Rd (w.alloc (.cells cs e)) (some ⟨n, 0, none⟩) xs.length xs := by subst hn; exact Rd.lit xs cs hd hcs hm

theorem Kp.refl (w : World) : Kp w w := Below.refl _ _
theorem Kp.al {w w' : World} (h : Kp w w') (o : Obj) : Kp w (w'.alloc o) := Below.alloc h h.size o
theorem Kp.dr {w w' : World} (h : Kp w w') (k : Nat) : Kp w (w'.drewN k) := below_drewN h k
theorem Kp.dr1 {w w' : World} (h : Kp w w') : Kp w w'.drew := Below.drew h
theorem Kp.nx {w w1 w2 : World} (h : Kp w w1) (k : Kp w1 w2) : Kp w w2 := Below.trans h (Below.mono k h.size)
theorem Kp.below {w w' : World} (h : Kp w w') : Below w.heap.size w w' := h
/-- writes to blocks that the call itself has laid -/
theorem Kp.grown {w w1 w2 : World} {row : Option Nat} (h : Kp w w1) (hg : w1.grownBy w2 row) (hr : ∀ k, row = some k → w.heap.size ≤ k) : Kp w w2 := Below.grown h hg h.size hr

theorem Own.nx {e : TypeId} {B : Nat} {w w' : World} {a : Option Addr} {cap : Nat} {xs : List Nat} (h : Own e B w a cap xs) (hb : Kp w w') : Own e B w' a cap xs := h.below hb (Nat.le_refl _)
theorem Own.al {e : TypeId} {B : Nat} {w : World} {a : Option Addr} {cap : Nat} {xs : List Nat} (h : Own e B w a cap xs) (o : Obj) : Own e B (w.alloc o) a cap xs := h.nx ((Below.refl _ w).alloc (Nat.le_refl _) o)
theorem Own.dr {e : TypeId} {B : Nat} {w : World} {a : Option Addr} {cap : Nat} {xs : List Nat} (h : Own e B w a cap xs) (k : Nat) : Own e B (w.drewN k) a cap xs := h.nx (below_drewN (Below.refl _ w) k)

/-- the form of the guide's shells: a slice that came in -/
theorem Rd.of_row {w : World} {a : Option Addr} {len cap : Nat} {zs : List Int}
    (h : (a = none ∧ len = 0 ∧ cap = 0 ∧ zs = []) ∨ ∃ x, a = some x ∧ len ≤ cap ∧ cap ≤ maxLen ∧ zs.length = cap ∧ (∀ i, i < zs.length → w.cell? (x.add i) = some (.int .u64 (zs.getD i 0))) ∧ ∀ n ∈ zs, (Lit.int .u64 n).wf = true)
    (hb : ∀ n : Int, (Lit.int .u64 n).wf = true → 0 ≤ n ∧ n ≤ 18446744073709551615) :
    ∃ xs : List Nat, xs.length = len ∧ Rd w a cap xs := by
  rcases h with ⟨rfl, rfl, rfl, rfl⟩ | ⟨x, rfl, hl, hm, hz, hc, hw⟩
  · exact ⟨[], rfl, Rd.nil w⟩
  · have hlen : ((zs.take len).map Int.toNat).length = len := by simp; omega
    refine ⟨(zs.take len).map Int.toNat, hlen, ?_, by omega, hm, ?_⟩
    · intro y hy
      obtain ⟨z, hz', rfl⟩ := List.mem_map.1 hy
      have := hb z (hw z (List.mem_of_mem_take hz'))
      omega
    · by_cases h0 : len = 0
      · subst h0; exact .inl (by simp)
      · right
        obtain ⟨b, off, spot⟩ := x
        have hc0 := hc 0 (by omega)
        have hspot : spot = none := by simpa [Addr.add] using World.cell?_spot hc0
        subst hspot
        refine ⟨b, off, rfl, ?_, ?_⟩
        · have := World.block_lt_of_cell? w _ hc0
          simpa [Addr.add] using this
        · intro i hi
          have hi' : i < len := by rw [hlen] at hi; exact hi
          have hci := hc i (by omega)
          have e : (⟨b, off, none⟩ : Addr).add i = ⟨b, off + i, none⟩ := by unfold Addr.add; split <;> simp_all
          rw [e] at hci
          rw [hci]
          have hb' := hb (zs.getD i 0) (hw _ (by rw [List.getD_eq_getElem?_getD, List.getElem?_eq_getElem (show i < zs.length by omega)]; exact List.getElem_mem _))
          have : (((zs.take len).map Int.toNat)[i] : Nat) = (zs.getD i 0).toNat := by
            simp [List.getElem_take, List.getD_eq_getElem?_getD, List.getElem?_eq_getElem (show i < zs.length by omega)]
          rw [this, Int.toNat_of_nonneg hb'.1]

end Go.Proofs.SL
/- Appending so many 0s to a slice of the call's own ('append(s, make([]T, n)...)' as the translation has it: the builtin is handed the number). A law of no program; one cell an element. -/
namespace Go.Proofs.SL
open Go.Lib
set_option linter.unusedVariables false
set_option linter.unusedSimpArgs false

theorem zeroCells_one (z : Value) (n : Nat) : Builtin.zeroCells #[z] n = (List.replicate n z).toArray := by
  apply Array.ext
  · simp [Builtin.zeroCells]
  · intro i h1 h2
    have : i % 1 = 0 := by omega
    simp [Builtin.zeroCells, this]

theorem run_append_room_zeros {P : Program} (w : World) (t tn ty e : TypeId) (i : TypeInfo) (z : Value) (kq kn : IntKind) (ht : P.underlying t = some (.slice e)) (htn : P.underlying tn = some (.int kn)) (hi : P.info? e = some i) (hz : i.zero = some z)
    (hs : i.size = 1) (hzc : z.cells = #[z]) (h1 : z.oneCell' = true) (g sLen sCap : Nat) (cur : Array Value) (hg : w.heap[g]? = some (.cells cur e (0, 0))) (k : Nat)
    (hk : k ≤ 1000000) (hb : i.bytes ≤ 8) (hroom : sLen + k ≤ sCap) (hfit : sLen + k ≤ cur.size) :
    (Builtin.append_ #[t, tn] ty #[.slice (some ⟨g, 0, none⟩) sLen sCap, .int kq k]).run P w =
      .ok (.slice (some ⟨g, 0, none⟩) (sLen + k) sCap) (w.setRow g (cur.toList.take sLen ++ List.replicate k z ++ cur.toList.drop (sLen + k)).toArray) := by
  have hw : IntKind.i64.wrap (k : Int) = k := by rw [IntKind.wrap_i64]; omega
  have h48i : ¬ (281474976710656 < (k : Int) * (i.bytes : Int)) := by
    have : (k : Int) * (i.bytes : Int) ≤ 1000000 * 8 := by
      rw [← Int.natCast_mul]; have := Nat.mul_le_mul hk hb; omega
    omega
  have hneg : ¬ ((k : Int) < 0) := by omega
  have hst := run_storeCells_at P g (sLen * i.size) e (List.replicate k z) 0 cur w hg (by simp [hs]; omega) (by intro u hu; rw [List.eq_of_mem_replicate hu]; exact h1)
  simp only [Nat.add_zero, hs, Nat.mul_one, List.length_replicate] at hst
  have hzz := zeroCells_one z k
  by_cases h0 : k = 0
  · subst h0
    have hw0 : IntKind.i64.wrap (0 : Int) = 0 := by rw [IntKind.wrap_i64]; rfl
    simp only [List.replicate_zero, List.append_nil, Nat.add_zero] at hst
    have hr2 : sLen ≤ sCap := by omega
    simp [hw0, hr2, Builtin.append_, run_underlying ht, run_underlying htn, sizeOf, typeInfo, zeroValue, hi, hz, asInt, asIntOf, hroom, hs, Addr.add_lit, hst]
  · simp [Builtin.append_, run_underlying ht, run_underlying htn, sizeOf, typeInfo, zeroValue, hi, hz, asInt, asIntOf, hw, hneg, h48i, hroom, hs, h0, hzc, hzz, Addr.add_lit, hst]

theorem run_append_own_zeros {P : Program} (w : World) (base : Nat) (t tn ty e : TypeId) (i : TypeInfo) (z : Value) (kq kn : IntKind) (ht : P.underlying t = some (.slice e)) (htn : P.underlying tn = some (.int kn)) (hi : P.info? e = some i) (hz : i.zero = some z)
    (hs : i.size = 1) (hb : i.bytes = 8) (hzc : z.cells = #[z]) (h1 : z.oneCell' = true)
    (g n cap : Nat) (xs : List Value) (hown : w.ownsRow base e 1 (.slice (some ⟨g, 0, none⟩) n cap) n xs) (k : Nat) (hk : k ≤ 1000000) (hn : n ≤ 1000000) (hbase : base ≤ w.heap.size) :
    ∃ g' c' w', (Builtin.append_ #[t, tn] ty #[.slice (some ⟨g, 0, none⟩) n cap, .int kq k]).run P w = .ok (.slice (some ⟨g', 0, none⟩) (n + k) c') w' ∧
      w'.ownsRow base e 1 (.slice (some ⟨g', 0, none⟩) (n + k) c') (n + k) (xs ++ List.replicate k z) ∧ w.grownBy w' (some g) := by
  rcases hown.2 with ⟨h, _⟩ | ⟨g0, cap0, cur, hv, hbg, hg, hnc, hcm, hcs, htake⟩
  · cases h
  · simp only [Value.slice.injEq, Option.some.injEq, Addr.mk.injEq, and_true, true_and] at hv
    obtain ⟨rfl, rfl⟩ := hv
    have hxl : xs.length = n := by simpa using hown.1
    have hlen : (xs ++ List.replicate k z).length = (n + k) * 1 := by simp [hxl]
    simp only [Nat.mul_one] at hcs htake
    by_cases hroom : n + k ≤ cap
    · have hr := run_append_room_zeros w t tn ty e i z kq kn ht htn hi hz hs hzc h1 g n cap cur hg k hk (by omega) hroom (by omega)
      refine ⟨g, cap, _, hr, ⟨hlen, .inr ⟨g, cap, _, rfl, hbg, setRow_heap w g cur _ e _ hg, hroom, hcm, ?_, ?_⟩⟩, ⟨rfl, rfl, rfl, by simp, fun j _ hj => setRow_other w g j _ (fun e => hj (by simp [e]))⟩⟩
      · simp only [List.size_toArray, List.length_append, List.length_take, List.length_drop, Array.length_toList, List.length_replicate]
        omega
      · rw [htake, ← hlen]
        exact List.take_left
    · have holds : ∀ j u, xs[j]? = some u → w.cell? ((⟨g, 0, none⟩ : Addr).add j) = some u := hown.cells (g := g) rfl
      have hf : (Builtin.firstCells i.size n (.slice (some ⟨g, 0, none⟩) n cap)).run P w.drew = .ok xs.toArray w.drew := run_firstCells_some (P := P) w.drew i.size n ⟨g, 0, none⟩ n cap xs (by rw [hs]; omega) holds
      have hr := run_append_grow_zeros w t tn ty e i z kq kn ht htn hi hz (some ⟨g, 0, none⟩) n cap xs hf k (by omega) (by omega) (by omega) (by omega) (by rw [hb]; omega) (growslice_fits (by omega) (by rw [hb]; omega))
      have hge := grownCap_ge w (n + k) cap e
      have hcm' : grownCap w (n + k) cap e ≤ maxLen := grownCap_le_maxLen w (n + k) cap e (by unfold maxLen; omega)
      refine ⟨_, _, _, hr, ⟨hlen, .inr ⟨w.heap.size, _, _, rfl, hbase, heap_alloc_new w.drew _, hge, hcm', ?_, ?_⟩⟩, ⟨rfl, rfl, rfl, by simp, fun j hj _ => heap_alloc_old w.drew _ hj⟩⟩
      · simp only [Array.size_append, List.size_toArray, size_zeroCells, hzc, hxl]
        simp; omega
      · simp only [Array.toList_append, List.append_assoc, hzc, zeroCells_one]
        rw [← List.append_assoc, ← hlen]
        exact List.take_left
end Go.Proofs.SL
