/- Plain arithmetic, more: products digit by digit, shifts, lengths, single bits: no program in sight. -/
import Derived.Laws.MathBits
import Derived.Test.YtepndjcncmkkkaaNatPure
namespace Go.Proofs.NP
set_option linter.unusedVariables false

/-- a digit written over -/
theorem val_set (b : Nat) : ∀ (xs : List Nat) (j v : Nat), j < xs.length → val b (xs.set j v) + xs[j]?.getD 0 * b ^ j = val b xs + v * b ^ j := by
  intro xs
  induction xs with
  | nil => intro j v h; simp at h
  | cons x xs ih =>
    intro j v h
    cases j with
    | zero => simp [val]; omega
    | succ j =>
      have := ih j v (by simpa using h)
      simp only [List.set_cons_succ, val, List.getElem?_cons_succ, Nat.pow_succ']
      have e : b * (val b (xs.set j v) + xs[j]?.getD 0 * b ^ j) = b * (val b xs + v * b ^ j) := by rw [this]
      rw [Nat.mul_add, Nat.mul_add, Nat.mul_left_comm, Nat.mul_left_comm b v] at e
      omega

theorem Dig.set {b : Nat} {xs : List Nat} (h : Dig b xs) (j v : Nat) (hv : v < b) : Dig b (xs.set j v) := by
  intro x hx
  rcases List.mem_or_eq_of_mem_set hx with h' | h'
  · exact h x h'
  · subst h'; exact hv

theorem Dig.zeros {b : Nat} (hb : 0 < b) (n : Nat) : Dig b (List.replicate n 0) := by
  intro x hx; rw [List.mem_replicate] at hx; omega

/-- one step of a product's row: x times a digit, what is over, and what stands there -/
theorem row_step (b : Nat) (hb : 2 ≤ b) (x y over o : Nat) (hx : x < b) (hy : y < b) (hv : over < b) (ho : o < b) :
    (x * y + over + o) / b < b := by
  rw [Nat.div_lt_iff_lt_mul (by omega)]
  have h1 : x * y ≤ (b - 1) * (b - 1) := Nat.mul_le_mul (by omega) (by omega)
  obtain ⟨c, rfl⟩ : ∃ c, b = c + 1 := ⟨b - 1, by omega⟩
  have h2 : (c + 1) * (c + 1) = c * c + c + c + 1 := by rw [Nat.mul_succ, Nat.succ_mul]; omega
  simp only [Nat.add_sub_cancel] at h1
  omega

/-- what holds inside a row of a product: os at the row's start, now os', k digits are done -/
structure Row (b : Nat) (os os' : List Nat) (x : Nat) (ys : List Nat) (i k over : Nat) : Prop where
  len : os'.length = os.length
  dig : Dig b os'
  ov : over < b
  v : val b os' + over * b ^ (i + k) = val b os + x * val b (ys.take k) * b ^ i
  tail : ∀ j, i + k ≤ j → os'[j]? = os[j]?

theorem Row.start {b : Nat} {os : List Nat} {x : Nat} {ys : List Nat} {i : Nat} (hb : 2 ≤ b) (h : Dig b os) : Row b os os x ys i 0 0 :=
  ⟨rfl, h, by omega, by simp [val], fun _ _ => rfl⟩

theorem val_take_succ (b : Nat) (ys : List Nat) (k : Nat) (h : k < ys.length) : val b (ys.take (k + 1)) = val b (ys.take k) + ys[k] * b ^ k := by
  rw [List.take_succ_eq_append_getElem h, val_append]
  simp [val, Nat.min_eq_left (Nat.le_of_lt h), Nat.mul_comm]

theorem Row.next {b : Nat} {os os' : List Nat} {x : Nat} {ys : List Nat} {i k over : Nat} (hb : 2 ≤ b) (R : Row b os os' x ys i k over) (hx : x < b) (hys : Dig b ys) (hk : k < ys.length) (hl : i + k < os.length) :
    Row b os (os'.set (i + k) ((x * ys[k] + over + os'[i + k]?.getD 0) % b)) x ys i (k + 1) ((x * ys[k] + over + os'[i + k]?.getD 0) / b) := by
  have ho : os'[i + k]?.getD 0 < b := R.dig.getD (by omega) _
  refine ⟨by simp [R.len], R.dig.set _ _ (Nat.mod_lt _ (by omega)), row_step b hb _ _ _ _ hx (hys.get k hk) R.ov ho, ?_, ?_⟩
  · have s := val_set b os' (i + k) ((x * ys[k] + over + os'[i + k]?.getD 0) % b) (by rw [R.len]; exact hl)
    have v := R.v
    rw [val_take_succ b ys k hk, Nat.mul_add, Nat.add_mul]
    have e := Nat.mod_add_div (x * ys[k] + over + os'[i + k]?.getD 0) b
    generalize os'[i + k]?.getD 0 = o at *
    generalize (x * ys[k] + over + o) % b = m at *
    generalize (x * ys[k] + over + o) / b = q at *
    have p1 : b ^ (i + (k + 1)) = b * b ^ (i + k) := by rw [← Nat.add_assoc, Nat.pow_succ']
    have p2 : x * (ys[k] * b ^ k) * b ^ i = x * ys[k] * b ^ (i + k) := by rw [Nat.pow_add, Nat.mul_assoc, Nat.mul_assoc, Nat.mul_assoc, Nat.mul_comm (b ^ k)]
    have e2 : m * b ^ (i + k) + q * (b * b ^ (i + k)) = x * ys[k] * b ^ (i + k) + over * b ^ (i + k) + o * b ^ (i + k) := by
      rw [← Nat.add_mul, ← Nat.add_mul, ← e, Nat.add_mul, Nat.mul_comm b q, Nat.mul_assoc q]
    rw [p1, p2]
    omega
  · intro j hj
    rw [List.getElem?_set_ne (by omega)]
    exact R.tail j (by omega)

/-- a row is over: what is over is written behind it -/
theorem Row.done {b : Nat} {os os' : List Nat} {x : Nat} {ys : List Nat} {i over : Nat} (hb : 2 ≤ b) (R : Row b os os' x ys i ys.length over) (hl : i + ys.length < os.length) (h0 : os[i + ys.length]?.getD 0 = 0) :
    (os'.set (i + ys.length) over).length = os.length ∧ Dig b (os'.set (i + ys.length) over) ∧ val b (os'.set (i + ys.length) over) = val b os + x * val b ys * b ^ i := by
  have s := val_set b os' (i + ys.length) over (by rw [R.len]; exact hl)
  have v := R.v
  rw [R.tail _ (Nat.le_refl _), h0] at s
  rw [List.take_length] at v
  exact ⟨by simp [R.len], R.dig.set _ _ R.ov, by omega⟩

/-- what holds between the rows -/
structure Rows (b : Nat) (os xs ys : List Nat) (i : Nat) : Prop where
  len : os.length = xs.length + ys.length
  dig : Dig b os
  v : val b os = val b (xs.take i) * val b ys

theorem Rows.zero {b : Nat} {xs ys os : List Nat} {i : Nat} (hb : 2 ≤ b) (R : Rows b os xs ys i) (hx : Dig b xs) (hy : Dig b ys) (hi : i < xs.length) : os[i + ys.length]?.getD 0 = 0 := by
  rw [getD_dg b hb R.dig, R.v, dg_big]
  have h1 := val_lt (b := b) (by omega) (hx.take i)
  have h2 := val_lt (b := b) (by omega) hy
  rw [List.length_take, Nat.min_eq_left (by omega)] at h1
  rw [Nat.pow_add]
  exact Nat.mul_lt_mul'' h1 h2

theorem Rows.next {b : Nat} {xs ys os os' : List Nat} {i over : Nat} (hb : 2 ≤ b) (R : Rows b os xs ys i) (hx : Dig b xs) (hy : Dig b ys) (hi : i < xs.length) (T : Row b os os' xs[i] ys i ys.length over) :
    Rows b (os'.set (i + ys.length) over) xs ys (i + 1) := by
  obtain ⟨d1, d2, d3⟩ := T.done hb (by rw [R.len]; omega) (R.zero hb hx hy hi)
  refine ⟨by rw [d1, R.len], d2, ?_⟩
  rw [d3, R.v, val_take_succ b xs i hi, Nat.add_mul]
  congr 1
  rw [Nat.mul_right_comm]

theorem Rows.done {b : Nat} {xs ys os : List Nat} (R : Rows b os xs ys xs.length) : val b os = val b xs * val b ys := by
  have := R.v; rwa [List.take_length] at this

/-! ### the length, single bits -/
theorem bitLen_zero : bitLen 0 = 0 := rfl
theorem bitLen_val (xs : List Nat) (h : Dig 18446744073709551616 xs) (i : Nat) (hz : ∀ j, i < j → xs[j]?.getD 0 = 0) (hi : xs[i]?.getD 0 ≠ 0) :
    bitLen (val 18446744073709551616 xs) = i * 64 + bitLen (xs[i]?.getD 0) := by
  have e : val 18446744073709551616 xs / 18446744073709551616 ^ i = xs[i]?.getD 0 := by
    have t := val_trim _ (by decide) h (i + 1) (fun j hj => hz j (by omega))
    have lt := val_lt (b := 18446744073709551616) (by decide) (h.take (i + 1))
    rw [t] at lt
    have lt : val 18446744073709551616 xs < 18446744073709551616 ^ (i + 1) := Nat.lt_of_lt_of_le lt (Nat.pow_le_pow_right (by decide) (by simp; omega))
    rw [getD_dg _ (by decide) h, dg, Nat.mod_eq_of_lt]
    rw [Nat.div_lt_iff_lt_mul (Nat.pow_pos (by decide)), Nat.mul_comm, ← Nat.pow_succ]; exact lt
  have p : 18446744073709551616 ^ i = 2 ^ (i * 64) := by rw [Nat.mul_comm, Nat.pow_mul]
  rw [p] at e
  rw [bitLen_shift _ (i * 64) (by rw [e]; exact hi), e]

theorem val_zero_of (b : Nat) (hb : 2 ≤ b) {xs : List Nat} (h : Dig b xs) (hz : ∀ j : Nat, xs[j]?.getD 0 = 0) : val b xs = 0 := by
  rw [← val_trim b hb h 0 (fun j _ => hz j)]; rfl

theorem bitLen_le_iff (n k : Nat) : bitLen n ≤ k ↔ n < 2 ^ k := by
  obtain ⟨h1, h2⟩ := bitLen_spec n
  constructor
  · intro h; exact Nat.lt_of_lt_of_le h1 (Nat.pow_le_pow_right (by decide) h)
  · intro h
    by_cases hn : n = 0
    · subst hn; simp [bitLen_zero]
    · have h2 := h2 hn
      have : 2 ^ (bitLen n - 1) < 2 ^ k := by omega
      have := (Nat.pow_lt_pow_iff_right (by decide : 1 < 2)).1 this
      omega

theorem bitLen_pos (n : Nat) (h : n ≠ 0) : 0 < bitLen n := by
  rcases Nat.eq_zero_or_pos (bitLen n) with h0 | h0
  · have := (bitLen_le_iff n 0).1 (by omega); simp at this; omega
  · exact h0

theorem bitLen_unique (n k : Nat) (h1 : 2 ^ k ≤ n) (h2 : n < 2 ^ (k + 1)) : bitLen n = k + 1 := by
  have a := (bitLen_le_iff n (k + 1)).2 h2
  have : ¬ bitLen n ≤ k := by rw [bitLen_le_iff]; omega
  omega

theorem bitLen_mono {m n : Nat} (h : m ≤ n) : bitLen m ≤ bitLen n := by
  rw [bitLen_le_iff]; exact Nat.lt_of_le_of_lt h ((bitLen_le_iff n _).1 (Nat.le_refl _))

/-- a bit of a number, by its digit -/
theorem bit_dg (b e n k r : Nat) (hb : b = 2 ^ e) (hr : r < e) : dg b n k / 2 ^ r % 2 = n / 2 ^ (k * e + r) % 2 := by
  subst hb
  rw [dg, ← Nat.pow_mul, Nat.mul_comm e k]
  have : 2 ^ e = 2 ^ r * 2 ^ (e - r) := by rw [← Nat.pow_add]; congr 1; omega
  rw [this, Nat.mod_mul_right_div_self, Nat.div_div_eq_div_mul, ← Nat.pow_add]
  have : 2 ^ (e - r) = 2 * 2 ^ (e - r - 1) := by rw [← Nat.pow_succ']; congr 1; omega
  rw [this, Nat.mod_mul_right_mod]

theorem mod_key (x A R : Nat) : x % (R * A) * A % (R * A) = x % R * A := by
  rw [Nat.mul_mod_mul_right, Nat.mod_mul_right_mod]

/-- a digit of a shifted number, by two digits of the number -/
theorem shr_dg (e n q r i : Nat) (he : 0 < e) (hr : r < e) :
    dg (2 ^ e) (n / 2 ^ (q * e + r)) i = dg (2 ^ e) n (i + q) / 2 ^ r + dg (2 ^ e) n (i + q + 1) * 2 ^ (e - r) % 2 ^ e := by
  have p : 2 ^ e = 2 ^ (e - r) * 2 ^ r := by rw [← Nat.pow_add]; congr 1; omega
  have p0 : 0 < 2 ^ r := Nat.two_pow_pos r
  have e1 : n / 2 ^ (q * e + r) / (2 ^ e) ^ i = n / (2 ^ e) ^ (i + q) / 2 ^ r := by
    rw [← Nat.pow_mul, ← Nat.pow_mul, Nat.div_div_eq_div_mul, Nat.div_div_eq_div_mul, ← Nat.pow_add, ← Nat.pow_add]
    congr 2
    rw [Nat.mul_add, Nat.mul_comm e i, Nat.mul_comm e q]; omega
  have e2 : n / (2 ^ e) ^ (i + q + 1) = n / (2 ^ e) ^ (i + q) / 2 ^ e := by rw [Nat.pow_succ, Nat.div_div_eq_div_mul]
  unfold dg
  rw [e1, e2]
  generalize n / (2 ^ e) ^ (i + q) = m
  -- m / 2^r mod 2^e = (m mod 2^e) / 2^r + (m / 2^e mod 2^e) * 2^(e-r) mod 2^e
  have q1 : m / 2 ^ e % 2 ^ e * 2 ^ (e - r) % 2 ^ e = m / 2 ^ e % 2 ^ r * 2 ^ (e - r) := by
    have key := mod_key (m / 2 ^ e) (2 ^ (e - r)) (2 ^ r)
    rw [Nat.mul_comm (2 ^ r), ← p] at key
    exact key
  rw [q1]
  have q2 : m / 2 ^ r % 2 ^ e = m / 2 ^ r % 2 ^ (e - r) + 2 ^ (e - r) * (m / 2 ^ r / 2 ^ (e - r) % 2 ^ r) := by
    conv => lhs; rw [p]
    rw [Nat.mod_mul]
  rw [q2, Nat.div_div_eq_div_mul, ← Nat.pow_add, show r + (e - r) = e by omega, Nat.mul_comm (2 ^ (e - r))]
  congr 1
  have : m % 2 ^ e / 2 ^ r = m / 2 ^ r % 2 ^ (e - r) := by
    rw [p, Nat.mul_comm (2 ^ (e - r)), Nat.mod_mul_right_div_self]
  omega

end Go.Proofs.NP
