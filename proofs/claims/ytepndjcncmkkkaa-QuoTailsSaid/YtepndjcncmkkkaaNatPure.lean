/- Plain arithmetic: naturals as lists of digits of any base, the lowest digit first: no program in sight. -/
namespace Go.Proofs.NP
set_option linter.unusedVariables false

/-- the number of a list of digits -/
def val (b : Nat) : List Nat → Nat
  | [] => 0
  | x :: xs => x + b * val b xs

/-- all digits are below the base -/
def Dig (b : Nat) (xs : List Nat) : Prop := ∀ x ∈ xs, x < b

def digsF (b : Nat) : Nat → Nat → List Nat
  | 0, _ => []
  | f + 1, n => if n = 0 then [] else n % b :: digsF b f (n / b)

/-- a number's digits, without 0s at the end -/
def digs (b n : Nat) : List Nat := digsF b n n

/-- the digit at a place -/
def dg (b n i : Nat) : Nat := n / b ^ i % b

theorem digsF_more (b : Nat) (hb : 2 ≤ b) : ∀ f g n, n ≤ f → n ≤ g → digsF b f n = digsF b g n := by
  intro f
  induction f with
  | zero => intro g n h1 h2; obtain rfl : n = 0 := by omega
            cases g <;> simp [digsF]
  | succ f ih =>
    intro g n h1 h2
    by_cases hn : n = 0
    · subst hn; cases g <;> simp [digsF]
    · cases g with
      | zero => omega
      | succ g =>
        have : n / b < n := Nat.div_lt_self (by omega) (by omega)
        simp only [digsF, if_neg hn]
        rw [ih g (n / b) (by omega) (by omega)]

theorem digs_zero (b : Nat) : digs b 0 = [] := rfl

theorem digs_pos (b n : Nat) (hb : 2 ≤ b) (hn : n ≠ 0) : digs b n = n % b :: digs b (n / b) := by
  cases n with
  | zero => omega
  | succ n =>
    have : (n + 1) / b < n + 1 := Nat.div_lt_self (by omega) (by omega)
    show digsF b (n + 1) (n + 1) = _
    simp only [digsF, if_neg hn]
    congr 1
    exact digsF_more b hb _ _ _ (by omega) (Nat.le_refl _)

theorem val_digs (b : Nat) (hb : 2 ≤ b) : ∀ n, val b (digs b n) = n := by
  intro n
  induction n using Nat.strongRecOn with
  | _ n ih =>
    by_cases hn : n = 0
    · subst hn; rfl
    · rw [digs_pos b n hb hn, val, ih _ (Nat.div_lt_self (by omega) (by omega))]
      exact Nat.mod_add_div n b

theorem dig_digs (b : Nat) (hb : 2 ≤ b) : ∀ n, Dig b (digs b n) := by
  intro n
  induction n using Nat.strongRecOn with
  | _ n ih =>
    by_cases hn : n = 0
    · subst hn; intro x hx; simp [digs_zero] at hx
    · rw [digs_pos b n hb hn]
      intro x hx
      rcases List.mem_cons.1 hx with rfl | hx
      · exact Nat.mod_lt _ (by omega)
      · exact ih _ (Nat.div_lt_self (by omega) (by omega)) x hx

theorem digs_inj (b : Nat) (hb : 2 ≤ b) {m n : Nat} (h : digs b m = digs b n) : m = n := by
  rw [← val_digs b hb m, h, val_digs b hb n]

theorem Dig.tail {b x : Nat} {xs : List Nat} (h : Dig b (x :: xs)) : Dig b xs := fun y hy => h y (List.mem_cons_of_mem _ hy)
theorem Dig.head {b x : Nat} {xs : List Nat} (h : Dig b (x :: xs)) : x < b := h x (by simp)
theorem Dig.take {b : Nat} {xs : List Nat} (h : Dig b xs) (n : Nat) : Dig b (xs.take n) := fun x hx => h x (List.mem_of_mem_take hx)
theorem Dig.append {b : Nat} {xs ys : List Nat} (h : Dig b xs) (k : Dig b ys) : Dig b (xs ++ ys) := fun x hx => by
  rcases List.mem_append.1 hx with h' | h'
  · exact h x h'
  · exact k x h'
theorem Dig.nil (b : Nat) : Dig b [] := fun x hx => by simp at hx
theorem Dig.get {b : Nat} {xs : List Nat} (h : Dig b xs) (i : Nat) (hi : i < xs.length) : xs[i] < b := h _ (List.getElem_mem hi)
theorem Dig.getD {b : Nat} {xs : List Nat} (h : Dig b xs) (hb : 0 < b) (i : Nat) : xs[i]?.getD 0 < b := by
  by_cases hi : i < xs.length
  · simp [hi]; exact h.get i hi
  · simp [hi]; exact hb

theorem val_lt {b : Nat} (hb : 0 < b) : ∀ {xs : List Nat}, Dig b xs → val b xs < b ^ xs.length := by
  intro xs
  induction xs with
  | nil => intro _; simp [val]
  | cons x xs ih =>
    intro h
    have h1 := ih h.tail
    have h2 := h.head
    rw [val, List.length_cons, Nat.pow_succ']
    have : b * (val b xs + 1) ≤ b * b ^ xs.length := Nat.mul_le_mul_left _ h1
    rw [Nat.mul_add] at this
    omega

theorem val_append (b : Nat) : ∀ xs ys : List Nat, val b (xs ++ ys) = val b xs + b ^ xs.length * val b ys := by
  intro xs ys
  induction xs with
  | nil => simp [val]
  | cons x xs ih =>
    rw [List.cons_append, val, val, ih, List.length_cons, Nat.pow_succ', Nat.mul_add, ← Nat.mul_assoc]
    omega

theorem val_zeros (b n : Nat) : val b (List.replicate n 0) = 0 := by
  induction n with
  | zero => rfl
  | succ n ih => rw [List.replicate_succ, val, ih]; simp

/-- a list without 0 at its end is its number's digits -/
theorem digs_val (b : Nat) (hb : 2 ≤ b) : ∀ {xs : List Nat}, Dig b xs → (∀ h : xs ≠ [], xs.getLast h ≠ 0) → digs b (val b xs) = xs := by
  intro xs
  induction xs with
  | nil => intro _ _; rfl
  | cons x xs ih =>
    intro h hl
    have hx := h.head
    have hd : (x + b * val b xs) / b = val b xs := by
      rw [Nat.add_mul_div_left _ _ (by omega), Nat.div_eq_of_lt hx]; omega
    have hm : (x + b * val b xs) % b = x := by
      rw [Nat.add_mul_mod_self_left, Nat.mod_eq_of_lt hx]
    have ih := ih h.tail (fun hn => by have := hl (by simp); rw [List.getLast_cons hn] at this; exact this)
    have hn : x + b * val b xs ≠ 0 := by
      intro e
      have hx0 : x = 0 := by omega
      have hb0 : b * val b xs = 0 := by omega
      have hv0 : val b xs = 0 := by
        rcases Nat.mul_eq_zero.1 hb0 with h' | h'
        · omega
        · exact h'
      rw [hv0, digs_zero] at ih
      subst ih
      have := hl (by simp)
      simp at this; omega
    rw [val, digs_pos b _ hb hn, hm, hd, ih]

/-- so many digits suffice -/
theorem digs_length_le (b : Nat) (hb : 2 ≤ b) : ∀ k n, n < b ^ k → (digs b n).length ≤ k := by
  intro k
  induction k with
  | zero => intro n h; obtain rfl : n = 0 := by simpa using h
            simp [digs_zero]
  | succ k ih =>
    intro n h
    by_cases hn : n = 0
    · subst hn; simp [digs_zero]
    · rw [digs_pos b n hb hn, List.length_cons]
      have : n / b < b ^ k := by
        rw [Nat.div_lt_iff_lt_mul (by omega), ← Nat.pow_succ]; exact h
      have := ih _ this
      omega

theorem lt_pow_length (b : Nat) (hb : 2 ≤ b) (n : Nat) : n < b ^ (digs b n).length := by
  have := val_lt (b := b) (by omega) (dig_digs b hb n)
  rw [val_digs b hb] at this; exact this

theorem digs_length_lt (b : Nat) (hb : 2 ≤ b) (k n : Nat) (h : b ^ k ≤ n) : k < (digs b n).length := by
  have := lt_pow_length b hb n
  exact (Nat.pow_lt_pow_iff_right (by omega)).1 (Nat.lt_of_le_of_lt h this)

theorem digs_last (b : Nat) (hb : 2 ≤ b) : ∀ n, ∀ h : digs b n ≠ [], (digs b n).getLast h ≠ 0 := by
  intro n
  induction n using Nat.strongRecOn with
  | _ n ih =>
    intro h
    by_cases hn : n = 0
    · subst hn; simp [digs_zero] at h
    · by_cases hd : n / b = 0
      · have : digs b n = [n % b] := by rw [digs_pos b n hb hn, hd, digs_zero]
        simp only [this, List.getLast_singleton]
        have := Nat.mod_add_div n b
        rw [hd] at this; omega
      · have hne : digs b (n / b) ≠ [] := by rw [digs_pos b _ hb hd]; simp
        have e := digs_pos b n hb hn
        have := ih _ (Nat.div_lt_self (by omega) (by omega)) hne
        simp only [e, List.getLast_cons hne]
        exact this

/-- the digit at a place of a list is the number's -/
theorem getD_dg (b : Nat) (hb : 2 ≤ b) : ∀ {xs : List Nat}, Dig b xs → ∀ i, xs[i]?.getD 0 = dg b (val b xs) i := by
  intro xs
  induction xs with
  | nil => intro _ i; simp [val, dg]
  | cons x xs ih =>
    intro h i
    have hx := h.head
    cases i with
    | zero => simp [val, dg, Nat.mod_eq_of_lt hx]
    | succ i =>
      have := ih h.tail i
      simp only [List.getElem?_cons_succ, this, val, dg]
      rw [Nat.pow_succ', ← Nat.div_div_eq_div_mul, Nat.add_mul_div_left _ _ (by omega), Nat.div_eq_of_lt hx, Nat.zero_add]

/-- so many digits of a number -/
def low (b n : Nat) : Nat → List Nat
  | 0 => []
  | k + 1 => low b n k ++ [dg b n k]

theorem low_length (b n k : Nat) : (low b n k).length = k := by
  induction k with
  | zero => rfl
  | succ k ih => simp [low, ih]

theorem low_dig (b n k : Nat) (hb : 2 ≤ b) : Dig b (low b n k) := by
  induction k with
  | zero => exact Dig.nil b
  | succ k ih => exact ih.append (fun x hx => by simp at hx; subst hx; exact Nat.mod_lt _ (by omega))

theorem val_low (b n k : Nat) : val b (low b n k) = n % b ^ k := by
  induction k with
  | zero => simp [low, val, Nat.mod_one]
  | succ k ih =>
    rw [low, val_append, ih, low_length, Nat.pow_succ, Nat.mod_mul]
    simp [val, dg]

theorem low_get (b n k i : Nat) (h : i < k) : (low b n k)[i]? = some (dg b n i) := by
  induction k with
  | zero => omega
  | succ k ih =>
    rw [low]
    by_cases hi : i < k
    · rw [List.getElem?_append_left (by rw [low_length]; exact hi), ih hi]
    · obtain rfl : i = k := by omega
      rw [List.getElem?_append_right (by rw [low_length]; omega), low_length]; simp

/-- numbers by their digits -/
theorem val_take (b : Nat) (hb : 2 ≤ b) {xs : List Nat} (h : Dig b xs) (i : Nat) : val b (xs.take i) = val b xs % b ^ i := by
  by_cases hi : i ≤ xs.length
  · have e : xs = xs.take i ++ xs.drop i := (List.take_append_drop i xs).symm
    have hl : (xs.take i).length = i := by simp; omega
    have := val_lt (b := b) (by omega) (h.take i)
    rw [hl] at this
    conv => rhs; rw [e, val_append, hl, Nat.add_mul_mod_self_left, Nat.mod_eq_of_lt this]
  · have := val_lt (b := b) (by omega) h
    rw [List.take_of_length_le (by omega), Nat.mod_eq_of_lt]
    exact Nat.lt_of_lt_of_le this (Nat.pow_le_pow_right (by omega) (by omega))

theorem mod_succ (b n i : Nat) : n % b ^ (i + 1) = n % b ^ i + b ^ i * dg b n i := by
  rw [Nat.pow_succ, Nat.mod_mul]; rfl

theorem dg_lt (b n i : Nat) (hb : 0 < b) : dg b n i < b := Nat.mod_lt _ hb

/-- 0s at the end -/
theorem val_trim (b : Nat) (hb : 2 ≤ b) {xs : List Nat} (h : Dig b xs) (n : Nat) (hz : ∀ j, n ≤ j → xs[j]?.getD 0 = 0) : val b (xs.take n) = val b xs := by
  rw [val_take b hb h]
  apply Nat.mod_eq_of_lt
  have key : ∀ k, val b xs < b ^ (n + k) → val b xs < b ^ n := by
    intro k
    induction k with
    | zero => intro h; simpa using h
    | succ k ih =>
      intro hk
      apply ih
      have h0 := hz (n + k) (by omega)
      rw [getD_dg b hb h, dg] at h0
      have h1 : val b xs / b ^ (n + k) < b := by
        rw [Nat.div_lt_iff_lt_mul (Nat.pow_pos (by omega)), Nat.mul_comm, ← Nat.pow_succ]; exact hk
      rw [Nat.mod_eq_of_lt h1] at h0
      have p : 0 < b ^ (n + k) := Nat.pow_pos (by omega)
      rcases Nat.lt_or_ge (val b xs) (b ^ (n + k)) with h2 | h2
      · exact h2
      · have := Nat.div_pos h2 p; omega
  have := val_lt (b := b) (by omega) h
  apply key xs.length
  exact Nat.lt_of_lt_of_le this (Nat.pow_le_pow_right (by omega) (by omega))

/-- what the trimming loop finds -/
theorem trim_done (b : Nat) (hb : 2 ≤ b) {xs : List Nat} (h : Dig b xs) (n : Nat) (hn : n ≤ xs.length) (hz : ∀ j, n ≤ j → xs[j]?.getD 0 = 0) (hl : n = 0 ∨ xs[n - 1]?.getD 0 ≠ 0) :
    xs.take n = digs b (val b xs) := by
  rw [← val_trim b hb h n hz]
  refine (digs_val b hb (h.take n) ?_).symm
  intro hne
  rcases hl with rfl | hl
  · simp at hne
  · have h0 : n ≠ 0 := by rintro rfl; simp at hne
    have : (xs.take n).getLast hne = xs[n - 1]?.getD 0 := by
      rw [List.getLast_eq_getElem]
      simp [List.getElem_take]
      have hlen : min n xs.length = n := by omega
      simp [hlen]
      rw [List.getElem?_eq_getElem (by omega)]; rfl
    rw [this]; exact hl

/-! ### sums, differences -/
def cin (b x y i : Nat) : Nat := (x % b ^ i + y % b ^ i) / b ^ i

theorem cin_zero (b x y : Nat) : cin b x y 0 = 0 := by simp [cin, Nat.mod_one]

theorem cin_le (b x y i : Nat) (hb : 0 < b) : cin b x y i ≤ 1 := by
  have p : 0 < b ^ i := Nat.pow_pos hb
  have h1 := Nat.mod_lt x p
  have h2 := Nat.mod_lt y p
  unfold cin
  have : (x % b ^ i + y % b ^ i) / b ^ i < 2 := by rw [Nat.div_lt_iff_lt_mul p]; omega
  omega

theorem add_step (b x y i : Nat) (hb : 2 ≤ b) :
    (dg b x i + dg b y i + cin b x y i) % b = dg b (x + y) i ∧ (dg b x i + dg b y i + cin b x y i) / b = cin b x y (i + 1) := by
  have p : 0 < b ^ i := Nat.pow_pos (by omega)
  have ex := Nat.div_add_mod x (b ^ i)
  have ey := Nat.div_add_mod y (b ^ i)
  have e1 : (x + y) / b ^ i = x / b ^ i + y / b ^ i + cin b x y i := by
    unfold cin
    conv => lhs; rw [← ex, ← ey]
    rw [show b ^ i * (x / b ^ i) + x % b ^ i + (b ^ i * (y / b ^ i) + y % b ^ i) = (x % b ^ i + y % b ^ i) + b ^ i * (x / b ^ i + y / b ^ i) by rw [Nat.mul_add]; omega,
      Nat.add_mul_div_left _ _ p]; omega
  constructor
  · rw [dg, dg, dg, e1]
    simp [Nat.add_mod]
  · have hx := mod_succ b x i
    have hy := mod_succ b y i
    unfold cin
    rw [hx, hy, Nat.pow_succ, ← Nat.div_div_eq_div_mul,
      show x % b ^ i + b ^ i * dg b x i + (y % b ^ i + b ^ i * dg b y i) = (x % b ^ i + y % b ^ i) + b ^ i * (dg b x i + dg b y i) by rw [Nat.mul_add]; omega,
      Nat.add_mul_div_left _ _ p, Nat.add_comm]

def bin (b x y i : Nat) : Nat := if x % b ^ i < y % b ^ i then 1 else 0
theorem bin_zero (b x y : Nat) : bin b x y 0 = 0 := by simp [bin, Nat.mod_one]
theorem bin_le (b x y i : Nat) : bin b x y i ≤ 1 := by unfold bin; split <;> omega

/-- the digit of a difference, and what is borrowed next -/
theorem sub_step (b x y i : Nat) (hb : 2 ≤ b) (h : y ≤ x) :
    (dg b x i + b - dg b y i - bin b x y i) % b = dg b (x - y) i ∧ (if dg b x i < dg b y i + bin b x y i then 1 else 0) = bin b x y (i + 1) := by
  have p : 0 < b ^ i := Nat.pow_pos (by omega)
  have hx := mod_succ b x i
  have hy := mod_succ b y i
  have lx := Nat.mod_lt x p
  have ly := Nat.mod_lt y p
  have dx := dg_lt b x i (by omega)
  have dy := dg_lt b y i (by omega)
  constructor
  · have ex := Nat.div_add_mod x (b ^ i)
    have ey := Nat.div_add_mod y (b ^ i)
    have e1 : (x - y) / b ^ i = x / b ^ i - y / b ^ i - bin b x y i := by
      unfold bin
      have hq : y / b ^ i ≤ x / b ^ i := Nat.div_le_div_right h
      obtain ⟨d, hd⟩ : ∃ d, x / b ^ i = y / b ^ i + d := ⟨x / b ^ i - y / b ^ i, by omega⟩
      have hm : b ^ i * (x / b ^ i) = b ^ i * (y / b ^ i) + b ^ i * d := by rw [hd, Nat.mul_add]
      clear hx hy
      generalize x % b ^ i = rx at *
      generalize y % b ^ i = ry at *
      split
      · have d1 : 1 ≤ d := by
          rcases Nat.eq_zero_or_pos d with h0 | h0
          · subst h0; simp at hm; omega
          · exact h0
        obtain ⟨c, rfl⟩ : ∃ c, d = c + 1 := ⟨d - 1, by omega⟩
        have hm2 : b ^ i * (c + 1) = b ^ i * c + b ^ i := by rw [Nat.mul_succ]
        have : x - y = (rx + b ^ i - ry) + b ^ i * c := by omega
        rw [this, Nat.add_mul_div_left _ _ p, Nat.div_eq_of_lt (by omega)]; omega
      · have : x - y = (rx - ry) + b ^ i * d := by omega
        rw [this, Nat.add_mul_div_left _ _ p, Nat.div_eq_of_lt (by omega)]; omega
    have hq : y / b ^ i + bin b x y i ≤ x / b ^ i := by
      have hq : y / b ^ i ≤ x / b ^ i := Nat.div_le_div_right h
      unfold bin
      split
      · rcases Nat.lt_or_ge (y / b ^ i) (x / b ^ i) with h' | h'
        · omega
        · have : x / b ^ i = y / b ^ i := by omega
          rw [this] at ex
          clear hx hy e1
          generalize x % b ^ i = rx at *
          generalize y % b ^ i = ry at *
          omega
      · omega
    rw [dg, dg, dg, e1]
    have m1 := Nat.div_add_mod (x / b ^ i) b
    have m2 := Nat.div_add_mod (y / b ^ i) b
    have hbi := bin_le b x y i
    have l1 := Nat.mod_lt (x / b ^ i) (show 0 < b by omega)
    have l2 := Nat.mod_lt (y / b ^ i) (show 0 < b by omega)
    generalize bin b x y i = c at *
    generalize x / b ^ i = X at *
    generalize y / b ^ i = Y at *
    -- X - Y - c, by the residues
    have : (X - Y - c) % b = (X % b + b - Y % b - c) % b := by
      have e2 : X - Y - c + b * (Y / b + 1) = (X % b + b - Y % b - c) + b * (X / b) := by
        have : b * (Y / b + 1) = b * (Y / b) + b := by rw [Nat.mul_succ]
        omega
      have := congrArg (· % b) e2
      simpa [Nat.add_mul_mod_self_left] using this
    exact this.symm
  · unfold bin
    rw [hx, hy]
    clear hx hy
    generalize x % b ^ i = rx at *
    generalize y % b ^ i = ry at *
    by_cases h1 : dg b x i < dg b y i
    · have : b ^ i * (dg b x i + 1) ≤ b ^ i * dg b y i := Nat.mul_le_mul_left _ h1
      rw [Nat.mul_succ] at this
      rw [if_pos (by split <;> omega), if_pos (by omega)]
    · by_cases h2 : dg b x i = dg b y i
      · rw [h2]
        by_cases h3 : rx < ry
        · rw [if_pos h3, if_pos (by omega), if_pos (by omega)]
        · rw [if_neg h3, if_neg (by omega), if_neg (by omega)]
      · have : b ^ i * (dg b y i + 1) ≤ b ^ i * dg b x i := Nat.mul_le_mul_left _ (by omega)
        rw [Nat.mul_succ] at this
        rw [if_neg (by split <;> omega), if_neg (by omega)]

/-! ### the order, by the highest digit that differs -/
theorem lt_of_dg (b : Nat) (hb : 2 ≤ b) (x y i : Nat) (hi : ∀ j, i < j → dg b x j = dg b y j) (hd : dg b x i < dg b y i) : x < y := by
  have key : ∀ k, x % b ^ (i + 1 + k) < y % b ^ (i + 1 + k) := by
    intro k
    induction k with
    | zero =>
      rw [Nat.add_zero, mod_succ, mod_succ]
      have p : 0 < b ^ i := Nat.pow_pos (by omega)
      have := Nat.mod_lt x p
      have q := Nat.mod_lt y p
      have : b ^ i * (dg b x i + 1) ≤ b ^ i * dg b y i := Nat.mul_le_mul_left _ hd
      rw [Nat.mul_succ] at this
      generalize x % b ^ i = rx at *
      generalize y % b ^ i = ry at *
      omega
    | succ k ih =>
      rw [← Nat.add_assoc, mod_succ, mod_succ, hi (i + 1 + k) (by omega)]; omega
  have hx : x < b ^ (i + 1 + (x + y)) := Nat.lt_of_lt_of_le (Nat.lt_pow_self (by omega : 1 < b)) (Nat.pow_le_pow_right (by omega) (by omega))
  have hy : y < b ^ (i + 1 + (x + y)) := Nat.lt_of_lt_of_le (Nat.lt_pow_self (by omega : 1 < b)) (Nat.pow_le_pow_right (by omega) (by omega))
  have := key (x + y)
  rw [Nat.mod_eq_of_lt hx, Nat.mod_eq_of_lt hy] at this
  exact this

theorem eq_of_dg (b : Nat) (hb : 2 ≤ b) (x y : Nat) (h : ∀ j, dg b x j = dg b y j) : x = y := by
  have key : ∀ k, x % b ^ k = y % b ^ k := by
    intro k
    induction k with
    | zero => simp [Nat.mod_one]
    | succ k ih => rw [mod_succ, mod_succ, ih, h k]
  have hx : x < b ^ (x + y) := Nat.lt_of_lt_of_le (Nat.lt_pow_self (by omega : 1 < b)) (Nat.pow_le_pow_right (by omega) (by omega))
  have hy : y < b ^ (x + y) := Nat.lt_of_lt_of_le (Nat.lt_pow_self (by omega : 1 < b)) (Nat.pow_le_pow_right (by omega) (by omega))
  have := key (x + y)
  rw [Nat.mod_eq_of_lt hx, Nat.mod_eq_of_lt hy] at this
  exact this

theorem dg_big (b n i : Nat) (h : n < b ^ i) : dg b n i = 0 := by rw [dg, Nat.div_eq_of_lt h]; simp

end Go.Proofs.NP
