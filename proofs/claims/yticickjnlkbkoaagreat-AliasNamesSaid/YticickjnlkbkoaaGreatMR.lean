/- The contracts of the document's naturals. -/
import Derived.Test.YticickjnlkbkoaaGreatMN
import Derived.Test.YticickjnlkbkoaaGreatMA
/- Plain arithmetic of 16-bit digits of 64-bit limbs. No program in sight. -/
namespace Go.Proofs.RN
open Go.Proofs.NP
open Go.Proofs.SL
set_option linter.unusedVariables false

/-- a limb's first k digits of 16 bits -/
def lows : Nat → Nat → List Nat
  | 0, _ => []
  | k + 1, x => x % 65536 :: lows k (x / 65536)
/-- all limbs' digits -/
def spread : List Nat → List Nat
  | [] => []
  | x :: xs => lows 4 x ++ spread xs

theorem lows_length (k x : Nat) : (lows k x).length = k := by
  induction k generalizing x with
  | zero => rfl
  | succ k ih => simp [lows, ih]
theorem lows_dig (k x : Nat) : Dig 65536 (lows k x) := by
  induction k generalizing x with
  | zero => intro y hy; cases hy
  | succ k ih =>
    intro y hy
    rcases List.mem_cons.1 hy with h | h
    · subst h; exact Nat.mod_lt _ (by decide)
    · exact ih _ y h
theorem lows_succ (k x : Nat) : lows (k + 1) x = lows k x ++ [x / 65536 ^ k % 65536] := by
  induction k generalizing x with
  | zero => simp [lows]
  | succ k ih =>
    rw [lows, ih, lows, Nat.div_div_eq_div_mul, Nat.pow_succ, Nat.mul_comm 65536]
    rfl
theorem spread_append (xs ys : List Nat) : spread (xs ++ ys) = spread xs ++ spread ys := by
  induction xs with
  | nil => rfl
  | cons x xs ih => simp [spread, ih]
theorem spread_length (xs : List Nat) : (spread xs).length = 4 * xs.length := by
  induction xs with
  | nil => rfl
  | cons x xs ih => simp [spread, ih, lows_length]; omega
theorem spread_dig (xs : List Nat) : Dig 65536 (spread xs) := by
  induction xs with
  | nil => intro y hy; cases hy
  | cons x xs ih =>
    intro y hy
    rcases List.mem_append.1 hy with h | h
    · exact lows_dig 4 x y h
    · exact ih y h
theorem lows_val (x : Nat) (h : x < 18446744073709551616) (ys : List Nat) : val 65536 (lows 4 x ++ ys) = x + 18446744073709551616 * val 65536 ys := by
  simp only [lows, List.cons_append, List.nil_append, val]
  omega
theorem spread_val (xs : List Nat) (h : Ws xs) : val 65536 (spread xs) = V xs := by
  unfold V
  induction xs with
  | nil => rfl
  | cons x xs ih =>
    rw [spread, lows_val x (h x (by simp)), ih (fun y hy => h y (by simp [hy]))]
    rfl
/-- a number's digits are the first ones of any digits that read as it -/
theorem digs_take {xs : List Nat} (h : Dig 65536 xs) : ∃ n, n ≤ xs.length ∧ xs.take n = digs 65536 (val 65536 xs) := by
  have key : ∀ k, k ≤ xs.length → (∀ j, k ≤ j → xs[j]?.getD 0 = 0) → ∃ n, n ≤ xs.length ∧ xs.take n = digs 65536 (val 65536 xs) := by
    intro k
    induction k with
    | zero => intro hk hz; exact ⟨0, hk, trim_done 65536 (by decide) h 0 hk hz (.inl rfl)⟩
    | succ k ih =>
      intro hk hz
      by_cases h0 : xs[k]?.getD 0 = 0
      · refine ih (by omega) fun j hj => ?_
        rcases Nat.eq_or_lt_of_le hj with rfl | h'
        · exact h0
        · exact hz j h'
      · exact ⟨k + 1, hk, trim_done 65536 (by decide) h (k + 1) hk hz (.inr (by simpa using h0))⟩
  exact key xs.length (Nat.le_refl _) fun j hj => by simp [hj]
end Go.Proofs.RN
/- Plain arithmetic: 16-bit digits gathered into 64-bit limbs. No program in sight. -/
namespace Go.Proofs.RN
open Go.Proofs.NP
open Go.Proofs.SL
set_option linter.unusedVariables false

def packF : Nat → List Nat → List Nat
  | 0, _ => []
  | f + 1, ds => if ds = [] then [] else val 65536 (ds.take 4) :: packF f (ds.drop 4)
/-- digits by fours -/
def pack (ds : List Nat) : List Nat := packF ds.length ds

theorem packF_more : ∀ f g (ds : List Nat), ds.length ≤ f → ds.length ≤ g → packF f ds = packF g ds := by
  intro f
  induction f with
  | zero =>
    intro g ds h1 h2
    obtain rfl : ds = [] := List.eq_nil_of_length_eq_zero (by omega)
    cases g <;> simp [packF]
  | succ f ih =>
    intro g ds h1 h2
    by_cases h0 : ds = []
    · subst h0; cases g <;> simp [packF]
    · have hp : 0 < ds.length := List.length_pos_iff.2 h0
      cases g with
      | zero => omega
      | succ g =>
        simp only [packF, if_neg h0]
        rw [ih g (ds.drop 4) (by simp; omega) (by simp; omega)]
theorem pack_nil : pack [] = [] := rfl
theorem pack_step {ds : List Nat} (h : ds ≠ []) : pack ds = val 65536 (ds.take 4) :: pack (ds.drop 4) := by
  have hp : 0 < ds.length := List.length_pos_iff.2 h
  obtain ⟨n, hn⟩ : ∃ n, ds.length = n + 1 := ⟨ds.length - 1, by omega⟩
  unfold pack
  rw [hn, packF, if_neg h, packF_more n (ds.drop 4).length (ds.drop 4) (by simp; omega) (by simp)]
theorem pack_length (ds : List Nat) : (pack ds).length ≤ ds.length := by
  have : ∀ f (ds : List Nat), (packF f ds).length ≤ f := by
    intro f
    induction f with
    | zero => intro ds; simp [packF]
    | succ f ih => intro ds; simp only [packF]; split <;> simp; exact ih _
  exact this _ _
theorem take4_lt {ds : List Nat} (h : Dig 65536 ds) : val 65536 (ds.take 4) < 18446744073709551616 := by
  have h1 := val_lt (b := 65536) (by decide) (h.take 4)
  have h2 : 65536 ^ (ds.take 4).length ≤ 65536 ^ 4 := Nat.pow_le_pow_right (by decide) (by simp; omega)
  have h3 : (65536 : Nat) ^ 4 = 18446744073709551616 := by decide
  omega
theorem val_cut4 (ds : List Nat) : val 65536 ds = val 65536 (ds.take 4) + 18446744073709551616 * val 65536 (ds.drop 4) := by
  match ds with
  | [] => rfl
  | [a] => simp [val]
  | [a, b] => simp [val]
  | [a, b, c] => simp [val]
  | a :: b :: c :: d :: r => simp only [List.take_succ_cons, List.take_zero, List.drop_succ_cons, List.drop_zero, val]; omega
theorem pack_all {ds : List Nat} (h : Dig 65536 ds) : Ws (pack ds) ∧ V (pack ds) = val 65536 ds := by
  have : ∀ n (ds : List Nat), ds.length ≤ n → Dig 65536 ds → Ws (pack ds) ∧ V (pack ds) = val 65536 ds := by
    intro n
    induction n with
    | zero =>
      intro ds h0 hd
      obtain rfl : ds = [] := List.eq_nil_of_length_eq_zero (by omega)
      exact ⟨Dig.nil _, rfl⟩
    | succ n ih =>
      intro ds h0 hd
      by_cases hn : ds = []
      · subst hn; exact ⟨Dig.nil _, rfl⟩
      · have hp : 0 < ds.length := List.length_pos_iff.2 hn
        have ⟨i1, i2⟩ := ih (ds.drop 4) (by simp; omega) (fun x hx => hd x (List.mem_of_mem_drop hx))
        rw [pack_step hn]
        refine ⟨fun x hx => ?_, ?_⟩
        · rcases List.mem_cons.1 hx with h' | h'
          · rw [h']; exact take4_lt hd
          · exact i1 x h'
        · rw [val_cut4 ds, ← i2]; rfl
  exact this _ ds (Nat.le_refl _) h
theorem val_pos_of_last {ds : List Nat} (hn : ds ≠ []) (hl : ds.getLast hn ≠ 0) : val 65536 ds ≠ 0 := by
  induction ds with
  | nil => exact absurd rfl hn
  | cons x ds ih =>
    by_cases h0 : ds = []
    · subst h0; simp [val] at hl ⊢; exact hl
    · have := ih h0 (by rwa [List.getLast_cons h0] at hl)
      simp only [val]; omega
theorem pack_last {ds : List Nat} (hn : ds ≠ []) (hl : ds.getLast hn ≠ 0) : ∀ h : pack ds ≠ [], (pack ds).getLast h ≠ 0 := by
  have : ∀ n (ds : List Nat), ds.length ≤ n → ∀ (hn : ds ≠ []), ds.getLast hn ≠ 0 → ∀ h : pack ds ≠ [], (pack ds).getLast h ≠ 0 := by
    intro n
    induction n with
    | zero => intro ds h0 hn; exact absurd (List.eq_nil_of_length_eq_zero (by omega)) hn
    | succ n ih =>
      intro ds h0 hn hl h
      by_cases h4 : ds.drop 4 = []
      · have ht : ds.take 4 = ds := List.take_of_length_le (by simpa using h4)
        have e : pack ds = [val 65536 ds] := by rw [pack_step hn, h4, ht]; rfl
        simp only [e, List.getLast_singleton]
        exact val_pos_of_last hn hl
      · have hl' : (ds.drop 4).getLast h4 ≠ 0 := by rw [List.getLast_drop]; exact hl
        have hne : pack (ds.drop 4) ≠ [] := by rw [pack_step h4]; simp
        have := ih (ds.drop 4) (by have := List.length_pos_iff.2 hn; simp; omega) h4 hl' hne
        have e := pack_step hn
        simp only [e, List.getLast_cons hne]
        exact this
  exact this _ ds (Nat.le_refl _) hn hl
/-- gathered digits of a number are its limbs -/
theorem pack_digs (n : Nat) : pack (digs 65536 n) = L n := by
  have hd : Dig 65536 (digs 65536 n) := dig_digs _ (by decide) n
  have ⟨h1, h2⟩ := pack_all hd
  rw [val_digs _ (by decide)] at h2
  have e : L (V (pack (digs 65536 n))) = pack (digs 65536 n) := by
    refine L_V h1 fun h => ?_
    by_cases h0 : digs 65536 n = []
    · rw [h0] at h; exact absurd rfl h
    · exact pack_last h0 (digs_last _ (by decide) n h0) h
  rw [h2] at e
  exact e.symm
end Go.Proofs.RN
/- The document's functions of layer 2 (tombolaref02), over digits of 16 bits: cut. -/
namespace Go.Proofs.RN
open Go.RowKit
open Go.Proofs
open Go.Proofs.NP
open Go.Proofs.SL
set_option linter.unusedVariables false
set_option maxRecDepth 20000

/-- the number of 16-bit digits, and a number's digits -/
def U (xs : List Nat) : Nat := val 65536 xs
def D (n : Nat) : List Nat := digs 65536 n

theorem cut (H : Nat) (a : Option Addr) (cap : Nat) (xs : List Nat) (w : World) (hs : Sl H w a cap xs) (hd : Dig 65536 xs) (hlen : xs.length ≤ 1000000) :
    Calls Tryz.prog 81 #[.slice a xs.length cap] w fun e w' => e = .returned (.slice a (D (U xs)).length cap) ∧ w = w' := by
  have hdone := fun n h1 h2 h3 => trim_done 65536 (by decide) hd n h1 h2 h3
  have hle := hs.le
  have hmx : cap ≤ 9223372036854775807 := by have := hs.max; unfold maxLen at this; omega
  change ∀ n, _ → _ → _ → xs.take n = D (U xs) at hdone
  generalize D (U xs) = ds at hdone ⊢
  have HD := Lib.hid hdone
  clear hdone
  have fin : ∀ n : Nat, n ≤ xs.length → (∀ j, n ≤ j → xs[j]?.getD 0 = 0) → (n = 0 ∨ xs[n - 1]?.getD 0 ≠ 0) → Hid (n = ds.length) := by
    intro n hn hz h
    have e := HD.out n hn hz h
    rw [Hid, ← e]; simp; omega
  have FIN := Lib.hid fin
  clear fin
  go_enter Tryz.func81, Tryz.ntmps81
  go_wp2
  go_loop [3] (fun s => ∃ n : Nat, s = .int .i64 n ∧ n ≤ xs.length ∧ Hid (∀ j, n ≤ j → xs[j]?.getD 0 = 0)) (fun s => (intOf s).toNat)
  case atStart => exact ⟨xs.length, rfl, Nat.le_refl _, fun j hj => by simp [hj]⟩
  case round =>
    obtain ⟨n, rfl, hn, hz⟩ := hrel
    cases n with
    | zero =>
      have F := FIN.out 0 hn hz.out (.inl rfl)
      go_wp2
      go_ret
      exact ⟨by rw [← F.out]; rfl, rfl⟩
    | succ n =>
      rcases hs.at' with rfl | ⟨b, off, rfl, hlt, hc⟩
      · simp at hn
      have hc := hc n (by omega)
      have hg : xs[n]?.getD 0 = xs[n] := by simp [show n < xs.length by omega]
      by_cases hx : xs[n] = 0
      · rw [hx] at hc
        have hz' : Hid (∀ j, n ≤ j → xs[j]?.getD 0 = 0) := by
          intro j hj
          rcases Nat.eq_or_lt_of_le hj with rfl | h
          · rw [hg, hx]
          · exact hz.out j h
        clear hx hg
        go_wp2_with fail
        go_round
        case rel => exact ⟨n, by go_num, by omega, hz'⟩
        case measure => simp [intOf]
      · have F := FIN.out (n + 1) hn hz.out (.inr (by simpa [hg] using hx))
        have hx' : (((xs[n] : Nat) : Int) == 0) = false := by simpa using hx
        clear hx hg
        go_wp2
        go_ret
        exact ⟨by rw [← F.out]; rfl, rfl⟩
end Go.Proofs.RN
/- Plain arithmetic for the document's Cmp, Len, Bit, Add, Sub, Mul, Shr over digits of 16 bits. No program in sight. -/
namespace Go.Proofs.RN
open Go.RowKit
open Go.Proofs
open Go.Proofs.NP
open Go.Proofs.SL
set_option linter.unusedVariables false
set_option linter.unusedSimpArgs false

theorem Dd (n : Nat) : Dig 65536 (D n) := dig_digs _ (by decide) n
theorem UD (n : Nat) : U (D n) = n := val_digs _ (by decide) n
theorem D_len {xs : List Nat} (h : Ws xs) : (D (V xs)).length ≤ 4 * xs.length := by
  refine digs_length_le 65536 (by decide) _ _ ?_
  have := V_lt h
  rw [Nat.pow_mul]; exact this
theorem Ddg (n i : Nat) : (D n)[i]?.getD 0 = dg 65536 n i := by
  have h := getD_dg 65536 (by decide) (Dd n) i
  rw [h]; show dg 65536 (U (D n)) i = _; rw [UD]
theorem Dlt (n : Nat) : n < 65536 ^ (D n).length := lt_pow_length _ (by decide) n
theorem Dlen_lt {x y : Nat} (h : (D x).length < (D y).length) : x < y := by
  rcases Nat.lt_or_ge x y with h' | h'
  · exact h'
  · have := digs_length_le 65536 (by decide) (D x).length y (Nat.lt_of_le_of_lt h' (Dlt x))
    have e : (D y).length = (digs 65536 y).length := rfl
    omega

theorem bitLen_half (x : Nat) (h : x ≠ 0) : bitLen x = bitLen (x / 2) + 1 := by
  by_cases h1 : x / 2 = 0
  · obtain rfl : x = 1 := by omega
    decide
  · have := bitLen_shift x 1 (by simpa using h1)
    simp at this; omega
theorem bitLen_D (n : Nat) (h : 0 < (D n).length) : bitLen n = 16 * ((D n).length - 1) + bitLen ((D n)[(D n).length - 1]?.getD 0) := by
  have h0 : (D n)[(D n).length - 1]?.getD 0 ≠ 0 := by
    have key : ∀ (ds : List Nat), 0 < ds.length → (∀ h : ds ≠ [], ds.getLast h ≠ 0) → ds[ds.length - 1]?.getD 0 ≠ 0 := by
      intro ds h hl
      have hne : ds ≠ [] := by intro e; rw [e] at h; simp at h
      have := hl hne
      rw [List.getLast_eq_getElem] at this
      simpa [show ds.length - 1 < ds.length by omega] using this
    exact key (D n) h (digs_last 65536 (by decide) n)
  have e2 := Ddg n ((D n).length - 1)
  have hlt := Dlt n
  obtain ⟨m, hm⟩ : ∃ m, (D n).length = m + 1 := ⟨(D n).length - 1, by omega⟩
  rw [hm] at h0 e2 hlt ⊢
  simp only [Nat.add_sub_cancel] at h0 e2 ⊢
  rw [e2] at h0 ⊢
  have e3 : n / 2 ^ (16 * m) = dg 65536 n m := by
    rw [dg, Nat.pow_mul, Nat.mod_eq_of_lt]
    rw [Nat.div_lt_iff_lt_mul (Nat.pow_pos (by decide)), Nat.mul_comm, ← Nat.pow_succ]; exact hlt
  rw [← e3] at h0 ⊢
  exact bitLen_shift n (16 * m) h0
theorem D_pos_iff (n : Nat) : (D n).length = 0 ↔ n = 0 := by
  constructor
  · intro h; have := Dlt n; rw [h] at this; simpa using this
  · rintro rfl; rfl

theorem bit_D (n i : Nat) : dg 65536 n (i / 16) / 2 ^ (i % 16) % 2 = n / 2 ^ i % 2 := by
  rw [bit_dg 65536 16 n (i / 16) (i % 16) (by decide) (Nat.mod_lt _ (by decide))]
  rw [show i / 16 * 16 + i % 16 = i by omega]
theorem bit_D_none (n i : Nat) (h : (D n).length ≤ i / 16) : n / 2 ^ i % 2 = 0 := by
  have h1 := Dlt n
  have h2 : 65536 ^ (D n).length ≤ 2 ^ i := by
    rw [show (65536 : Nat) = 2 ^ 16 by decide, ← Nat.pow_mul]; exact Nat.pow_le_pow_right (by decide) (by omega)
  rw [Nat.div_eq_of_lt (by omega)]

/-- a sum is through: beyond all digits, with nothing carried -/
theorem add_end (x y i : Nat) (hx : (D x).length ≤ i) (hy : (D y).length ≤ i) (h0 : cin 65536 x y i = 0) : val 65536 (low 65536 (x + y) i) = x + y := by
  have p : 0 < 65536 ^ i := Nat.pow_pos (by decide)
  have x1 : x < 65536 ^ i := Nat.lt_of_lt_of_le (Dlt x) (Nat.pow_le_pow_right (by decide) hx)
  have y1 : y < 65536 ^ i := Nat.lt_of_lt_of_le (Dlt y) (Nat.pow_le_pow_right (by decide) hy)
  rw [val_low]
  unfold cin at h0
  rw [Nat.mod_eq_of_lt x1, Nat.mod_eq_of_lt y1] at h0
  rcases Nat.lt_or_ge (x + y) (65536 ^ i) with h | h
  · exact Nat.mod_eq_of_lt h
  · have := Nat.div_pos h p; omega
theorem cin_end (x y i : Nat) (hx : (D x).length < i) (hy : (D y).length < i) : cin 65536 x y i = 0 := by
  obtain ⟨m, rfl⟩ : ∃ m, i = m + 1 := ⟨i - 1, by omega⟩
  have x1 : x < 65536 ^ m := Nat.lt_of_lt_of_le (Dlt x) (Nat.pow_le_pow_right (by decide) (by omega))
  have y1 : y < 65536 ^ m := Nat.lt_of_lt_of_le (Dlt y) (Nat.pow_le_pow_right (by decide) (by omega))
  have e : (65536 : Nat) ^ (m + 1) = 65536 ^ m * 65536 := Nat.pow_succ _ _
  unfold cin
  generalize (65536 : Nat) ^ m = B at *
  rw [e, Nat.mod_eq_of_lt (by omega), Nat.mod_eq_of_lt (by omega), Nat.div_eq_of_lt (by omega)]
theorem sub_end (x y : Nat) : val 65536 (low 65536 (x - y) (D x).length) = x - y := by
  rw [val_low]; exact Nat.mod_eq_of_lt (Nat.lt_of_le_of_lt (Nat.sub_le _ _) (Dlt x))

theorem bit_room (T k : Nat) {os : List Nat} (hd : Dig 65536 os) (hv : val 65536 os = T % 2 ^ k) :
    os[k / 16]?.getD 0 + 2 ^ (k % 16) < 65537 ∧ 2 ^ (k % 16) ≤ 32768 ∧ os[k / 16]?.getD 0 < 2 ^ (k % 16) := by
  have h1 : T % 2 ^ k < 2 ^ k := Nat.mod_lt _ (Nat.two_pow_pos k)
  have e : 2 ^ k = 65536 ^ (k / 16) * 2 ^ (k % 16) := by
    rw [show (65536 : Nat) = 2 ^ 16 by decide, ← Nat.pow_mul, ← Nat.pow_add]; congr 1; omega
  have h2 : os[k / 16]?.getD 0 < 2 ^ (k % 16) := by
    rw [getD_dg 65536 (by decide) hd, hv, dg]
    refine Nat.lt_of_le_of_lt (Nat.mod_le _ _) ?_
    rw [Nat.div_lt_iff_lt_mul (Nat.pow_pos (by decide)), Nat.mul_comm, ← e]; exact h1
  have h3 : 2 ^ (k % 16) ≤ 2 ^ 15 := Nat.pow_le_pow_right (by decide) (by omega)
  have h4 : (2 : Nat) ^ 15 = 32768 := by decide
  omega
theorem bit_set (T k : Nat) {os : List Nat} (hd : Dig 65536 os) (hv : val 65536 os = T % 2 ^ k) (hk : k / 16 < os.length) (hb : T / 2 ^ k % 2 = 1) :
    Dig 65536 (os.set (k / 16) (os[k / 16]?.getD 0 + 2 ^ (k % 16))) ∧ val 65536 (os.set (k / 16) (os[k / 16]?.getD 0 + 2 ^ (k % 16))) = T % 2 ^ (k + 1) := by
  have ⟨r1, r2, r3⟩ := bit_room T k hd hv
  refine ⟨hd.set _ _ (by omega), ?_⟩
  have s := val_set 65536 os (k / 16) (os[k / 16]?.getD 0 + 2 ^ (k % 16)) hk
  have e : 2 ^ k = 2 ^ (k % 16) * 65536 ^ (k / 16) := by
    rw [show (65536 : Nat) = 2 ^ 16 by decide, ← Nat.pow_mul, ← Nat.pow_add]; congr 1; omega
  rw [Nat.add_mul, ← e] at s
  have m : T % 2 ^ (k + 1) = T % 2 ^ k + 2 ^ k * (T / 2 ^ k % 2) := by rw [Nat.pow_succ, Nat.mod_mul]
  rw [m, hb]; omega
theorem bit_not (T k : Nat) (hb : T / 2 ^ k % 2 = 0) : T % 2 ^ k = T % 2 ^ (k + 1) := by
  have m : T % 2 ^ (k + 1) = T % 2 ^ k + 2 ^ k * (T / 2 ^ k % 2) := by rw [Nat.pow_succ, Nat.mod_mul]
  rw [m, hb]; simp
theorem bit_all (T k : Nat) (h : bitLen T ≤ k) : T % 2 ^ k = T := Nat.mod_eq_of_lt ((bitLen_le_iff T k).1 h)

/-- 2 to the power of n, as digits -/
theorem power_val (n m : Nat) (h : m = n / 16 + 1) : val 65536 ((List.replicate m 0).set (n / 16) (2 ^ (n % 16))) = 2 ^ n := by
  have s := val_set 65536 (List.replicate m 0) (n / 16) (2 ^ (n % 16)) (by simp; omega)
  rw [val_zeros] at s
  have e : 2 ^ n = 2 ^ (n % 16) * 65536 ^ (n / 16) := by
    rw [show (65536 : Nat) = 2 ^ 16 by decide, ← Nat.pow_mul, ← Nat.pow_add]; congr 1; omega
  have z : (List.replicate m 0)[n / 16]?.getD 0 = 0 := by rw [List.getElem?_replicate]; split <;> rfl
  rw [z] at s; omega
theorem power_dig (n m : Nat) : Dig 65536 ((List.replicate m 0).set (n / 16) (2 ^ (n % 16))) := by
  refine (Dig.zeros (by decide) m).set _ _ ?_
  exact Nat.lt_of_le_of_lt (Nat.pow_le_pow_right (by decide) (show n % 16 ≤ 15 by omega)) (by decide)
end Go.Proofs.RN
/- The document's Digits of layer 2: a natural's digits of 16 bits. -/
namespace Go.Proofs.RN
open Go.RowKit
open Go.Proofs
open Go.Proofs.NP
open Go.Proofs.SL
set_option linter.unusedVariables false
set_option maxRecDepth 20000

theorem own_more {e : TypeId} {B : Nat} {w : World} {v : Value} {us : List Nat} {d : Nat} {z : Int} (hz : z = (d : Int)) (h : w.ownsRow B e 1 v (us.length + 1) (us.map enc ++ [.int .u64 z])) (hu : Ws us) (hd : d < 18446744073709551616) :
    ∃ a c, v = .slice a (us ++ [d]).length c ∧ Own e B w a c (us ++ [d]) := by
  subst hz
  have hl : (us ++ [d]).length = us.length + 1 := by simp
  have hsh : ∃ a c, v = .slice a (us.length + 1) c := by
    rcases h.2 with ⟨_, h0⟩ | ⟨g, c, cur, rfl, _⟩
    · omega
    · exact ⟨_, c, rfl⟩
  obtain ⟨a, c, rfl⟩ := hsh
  refine ⟨a, c, by rw [hl], ⟨?_, ?_⟩⟩
  · intro x hx
    rcases List.mem_append.1 hx with h' | h'
    · exact hu x h'
    · simp at h'; subst h'; exact hd
  · rw [hl, List.map_append]; exact h

set_option maxHeartbeats 2000000 in
theorem digits (a : Option Addr) (cap l : Nat) (xs : List Nat) (w : World) (hs : Rd w a cap xs) (lx : xs.length = l) (hlen : l ≤ 100000) :
    Calls Tryz.prog 56 #[.slice a l cap] w (Gives 66 w (D (V xs))) := by
  have hle := hs.le
  have hmx : cap ≤ 9223372036854775807 := by have := hs.max; unfold maxLen at this; omega
  have hws := hs.ws
  obtain ⟨i0, hi, hz0, hz1, hz2⟩ := info_parts NT.Tryz.info66
  subst lx
  go_enter Tryz.func56, Tryz.ntmps56
  go_wp2
  go_loopw [3, 4] (fun s3 s4 wr => ∃ (i : Nat) (pa : Option Addr) (ca : Nat) (os : List Nat), s3 = .slice pa os.length ca ∧ s4 = .int .i64 i ∧ i ≤ xs.length ∧ Hid (os = spread (xs.take i)) ∧ Own 66 w.heap.size wr pa ca os ∧ Below w.heap.size w wr) (fun _ s _ => xs.length - (intOf s).toNat)
  case atStart => exact ⟨0, none, 0, [], rfl, rfl, by omega, rfl, ⟨Dig.nil _, World.ownsRow_nil w _ _ _⟩, Below.refl _ _⟩
  case round =>
    obtain ⟨i, pa, ca, os, rfl, rfl, hi', HO, ho, hb⟩ := hrel
    by_cases hlt : i < xs.length
    · rcases hs.at' with rfl | ⟨b, off, rfl, hbk, hc⟩
      · simp at hlt
      have hc := hc i hlt
      have e0 := hb.cell (p := ⟨b, off + i, none⟩) hbk
      have hc' : wr.cell? ⟨b, off + i, none⟩ = some (.int .u64 (xs[i] : Nat)) := by rw [e0]; exact hc
      have hx := hws.get i hlt
      have HT := Lib.hid (show spread (xs.take (i + 1)) = os ++ lows 4 xs[i] by rw [List.take_succ_eq_append_getElem hlt, spread_append, HO.out]; simp [spread])
      obtain ⟨x, hxe⟩ : ∃ x, x = xs[i] := ⟨_, rfl⟩
      rw [← hxe] at hc' hx HT
      clear hxe hc e0
      obtain ⟨wo, rfl⟩ : ∃ wo : World, wo = wr := ⟨_, rfl⟩
      go_wp2_with fail
      go_loopw [3, 5, 6] (fun s3 s5 s6 wr => ∃ (k y : Nat) (pa : Option Addr) (ca : Nat) (us : List Nat), s3 = .slice pa us.length ca ∧ s5 = .int .u64 y ∧ s6 = .int .i64 k ∧ k ≤ 4 ∧ y < 18446744073709551616 ∧ us.length ≤ os.length + k ∧ Hid (y = x / 65536 ^ k) ∧ Hid (us = os ++ lows k x) ∧ Own 66 w.heap.size wr pa ca us ∧ Below w.heap.size w wr) (fun _ _ s _ => 4 - (intOf s).toNat)
      case atStart => exact ⟨0, x, pa, ca, os, rfl, rfl, rfl, by omega, hx, by omega, by simp [Hid], by simp [Hid, lows], ho, hb⟩
      case round =>
        obtain ⟨k, y, pa1, ca1, us, rfl, rfl, rfl, hk, hy, hul, HY, HU, ho1, hb1⟩ := hrel
        by_cases hlt2 : k < 4
        · have hown := (ho1.al (.cells #[.int .u64 ((y : Int) % 65536)] 66)).row
          have hcell : Hid ((wr.alloc (.cells #[.int .u64 ((y : Int) % 65536)] 66)).cell? ⟨wr.heap.size, 0, none⟩ = some (.int .u64 ((y : Int) % 65536))) := by
            have := (World.ownsRow_lit (e := 66) (base := 0) (size := 1) wr #[.int .u64 ((y : Int) % 65536)] 1 (Nat.zero_le _) (by decide) (by simp)).cellAt 0 (by decide)
            exact this
          have hul2 : os.length ≤ 400000 := by rw [HO.out, spread_length, List.length_take]; omega
          go_wp2_with (at_builtin; refine wpList_append_own _ rfl _ _ 44 rfl w.heap.size 66 i0 (.int .u64 0) 1 8 Tryz.underlying44 hi hz0 hz1 hz2 rfl (by decide) _ us.length (us.map enc) rfl hown ⟨wr.heap.size, 0, none⟩ 1 1 [.int .u64 ((y : Int) % 65536)] rfl ?c1 ?c2 ?c3 ?c4 ?c5 ?c6 ?_)
          case c1 => rfl
          case c2 =>
            intro j u hu
            cases j with
            | zero => simp at hu; subst hu; exact hcell.out
            | succ j => simp at hu
          case c3 => intro u hu; simp at hu; subst hu; rfl
          case c4 => unfold maxLen; omega
          case c5 => omega
          case c6 => exact Nat.le_trans hb1.size (by simp)
          intro v' w2 hown2 hgr2 hnil2
          obtain ⟨pa2, ca2, rfl, ho2⟩ := own_more (d := y % 65536) (by omega) hown2 ho1.dig (by omega)
          have hb2 : Below w.heap.size w w2 := by
            refine (hb1.alloc hb1.size _).grown hgr2 (Nat.le_trans hb1.size (by simp)) (fun g hg => ?_)
            rcases ho1.cases with ⟨rfl, _⟩ | ⟨g', rfl, h1, _⟩
            · simp [Value.ownBlock] at hg
            · simp [Value.ownBlock] at hg; omega
          have HY2 : Hid (y / 65536 = x / 65536 ^ (k + 1)) := by rw [Hid, HY.out, Nat.div_div_eq_div_mul, Nat.pow_succ]
          have HU2 : Hid (us ++ [y % 65536] = os ++ lows (k + 1) x) := by rw [Hid, lows_succ, ← List.append_assoc, ← HU.out, ← HY.out]
          have hul3 : (us ++ [y % 65536]).length ≤ os.length + (k + 1) := by simp; omega
          obtain ⟨us2, hus2⟩ : ∃ z, z = us ++ [y % 65536] := ⟨_, rfl⟩
          rw [← hus2] at HU2 hul3 ho2 ⊢
          obtain ⟨y2, hy2⟩ : ∃ z, z = y / 65536 := ⟨_, rfl⟩
          rw [← hy2] at HY2
          have HYE := Lib.hid (show (y : Int) / 65536 = (y2 : Int) by omega)
          have hy3 : y2 < 18446744073709551616 := by omega
          clear hus2 hy2 hown2 hgr2 hnil2 hown hcell hb1 ho1 HU HY
          go_wp2_with fail
          refine ⟨⟨k + 1, y2, pa2, ca2, us2, rfl, by rw [HYE.out], by simp, by omega, hy3, hul3, HY2, HU2, ho2, hb2⟩, ?_⟩
          simp [intOf]; omega
        · obtain rfl : k = 4 := by omega
          have HT2 : Hid (us = spread (xs.take (i + 1))) := by rw [Hid, HT.out]; exact HU.out
          clear HT HU HO hul HY
          go_wp2_with fail
          go_roundw
          case rel => exact ⟨i + 1, pa1, ca1, us, rfl, by simp, by omega, HT2, ho1, hb1⟩
          case measure => simp [intOf]; omega
    · have hi2 : i = xs.length := by omega
      subst hi2
      have HO2 := HO.out
      rw [List.take_length] at HO2
      have hU := spread_val xs hws
      have hdo : Dig 65536 os := by rw [HO2]; exact spread_dig xs
      obtain ⟨n, hn, ht⟩ := digs_take hdo
      have htk := ho.take n hn
      have hl : (os.take n).length = n := by simp; omega
      have hle1 : os.length ≤ 1000000 := by rw [HO2, spread_length]; omega
      have hUo : U os = V xs := by unfold U; rw [HO2]; exact hU
      have hC := cut wr.heap.size pa ca os wr ho.sl hdo hle1
      have hD : D (V xs) = os.take n := by rw [← hUo]; exact ht.symm
      have hDl : (D (V xs)).length = n := by rw [hD, hl]
      rw [hUo, hDl] at hC
      have HC := Lib.hid hC
      have hf : Hid (Gives 66 w (D (V xs)) (.returned (.slice pa n ca)) wr) := ⟨pa, ca, by rw [hDl], by rw [hD]; exact htk, hb⟩
      clear hC hD hDl hUo hle1 hl htk ht hn hdo hU HO2 ho hb HO
      go_wp2_with fail
      refine HC.out.mono ?_
      rintro e w' ⟨rfl, rfl⟩
      go_wp2
      go_ret
      exact hf.out
end Go.Proofs.RN
/- The document's Join of layer 2: the natural of digits of 16 bits. -/
namespace Go.Proofs.RN
open Go.RowKit
open Go.Proofs
open Go.Proofs.NP
open Go.Proofs.SL
set_option linter.unusedVariables false
set_option maxRecDepth 20000

/-- one step down a row: the value of the digits from k on, up to m -/
theorem val_down (ds : List Nat) (m k : Nat) (hm : m ≤ ds.length) (h : k < m) : val 65536 ((ds.take m).drop k) = ds[k]?.getD 0 + 65536 * val 65536 ((ds.take m).drop (k + 1)) := by
  have hk : k < (ds.take m).length := by simp; omega
  rw [List.drop_eq_getElem_cons hk, val]
  congr 1
  simp [show k < ds.length by omega]
theorem val_down_lt (ds : List Nat) (hd : Dig 65536 ds) (m k i : Nat) (hm : m ≤ i + 4) (h : i ≤ k) : val 65536 ((ds.take m).drop k) < 65536 ^ (i + 4 - k) := by
  have hd' : Dig 65536 ((ds.take m).drop k) := fun x hx => hd x (List.mem_of_mem_take (List.mem_of_mem_drop hx))
  have h1 := val_lt (b := 65536) (by decide) hd'
  exact Nat.lt_of_lt_of_le h1 (Nat.pow_le_pow_right (by decide) (by simp; omega))

set_option maxHeartbeats 2000000 in
theorem join (a : Option Addr) (cap l : Nat) (xs : List Nat) (w : World) (hs : Rd w a cap xs) (hd : Dig 65536 xs) (lx : xs.length = l) (hlen : l ≤ 1000000) :
    Calls Tryz.prog 55 #[.slice a l cap] w (Gives 66 w (L (U xs))) := by
  subst lx
  have hle := hs.le
  have hmx : cap ≤ 9223372036854775807 := by have := hs.max; unfold maxLen at this; omega
  obtain ⟨i0, hi, hz0, hz1, hz2⟩ := info_parts NT.Tryz.info66
  have hC := cut w.heap.size a cap xs w hs hd hlen
  obtain ⟨n, hn, ht⟩ := digs_take hd
  have hp := pack_digs (U xs)
  have hs2 := NT.Sl.take hs n hn
  have hd2 : Dig 65536 (xs.take n) := hd.take n
  change xs.take n = D (U xs) at ht
  change pack (D (U xs)) = _ at hp
  rw [ht] at hs2 hd2
  have hdl : (D (U xs)).length ≤ xs.length := by rw [← ht]; simp; omega
  obtain ⟨ds, hds⟩ : ∃ ds, ds = D (U xs) := ⟨_, rfl⟩
  obtain ⟨zs, hzs⟩ : ∃ zs, zs = L (U xs) := ⟨_, rfl⟩
  rw [← hds] at hC hp hs2 hd2 hdl
  rw [← hzs] at hp ⊢
  have HC := Lib.hid hC
  have HP := Lib.hid hp
  clear hC hp ht hds hzs hs
  go_enter Tryz.func55, Tryz.ntmps55
  go_wp2_with fail
  refine HC.out.mono ?_
  rintro e w' ⟨rfl, rfl⟩
  clear HC
  go_wp2
  go_loopw [3, 4] (fun s3 s4 wr => ∃ (i : Nat) (pa : Option Addr) (ca : Nat) (os : List Nat), s3 = .slice pa os.length ca ∧ s4 = .int .i64 i ∧ i ≤ ds.length + 4 ∧ os.length ≤ i ∧ Hid (os ++ pack (ds.drop i) = zs) ∧ Own 66 w.heap.size wr pa ca os ∧ Below w.heap.size w wr) (fun _ s _ => ds.length - (intOf s).toNat)
  case atStart => exact ⟨0, none, 0, [], rfl, rfl, by omega, by simp, HP.out, ⟨Dig.nil _, World.ownsRow_nil w _ _ _⟩, Below.refl _ _⟩
  case round =>
    obtain ⟨i, pa, ca, os, rfl, rfl, hi', hol, HO, ho, hb⟩ := hrel
    by_cases hlt : i < ds.length
    · obtain ⟨m, hm⟩ : ∃ m, m = min ds.length (i + 4) := ⟨_, rfl⟩
      have hm1 : m ≤ ds.length := by omega
      have hm2 : m ≤ i + 4 := by omega
      have hm3 : i < m := by omega
      obtain ⟨wo, rfl⟩ : ∃ wo : World, wo = wr := ⟨_, rfl⟩
      have hne : ds.drop i ≠ [] := by intro h; have := congrArg List.length h; simp at this; omega
      have HS := Lib.hid (show os ++ (val 65536 ((ds.take m).drop i) :: pack (ds.drop (i + 4))) = zs by
        have h1 := HO.out
        rw [pack_step hne, List.drop_drop] at h1
        have h2 : (ds.take m).drop i = (ds.drop i).take 4 := by
          rw [List.drop_take]
          rcases Nat.le_total ds.length (i + 4) with h | h
          · rw [List.take_of_length_le (by simp; omega), List.take_of_length_le (by simp; omega)]
          · rw [show m - i = 4 by omega]
        rw [h2]; exact h1)
      have hlast : Hid ((ds.take m).drop m = []) := List.drop_eq_nil_of_le (by simp; omega)
      rcases hs2.at' with h0 | ⟨b, off, rfl, hbk, hc⟩
      · rw [h0] at hlt; simp at hlt
      have HCC := Lib.hid hc
      clear hc hne
      rcases Nat.lt_or_ge (i + 4) ds.length with h4 | h4
      · go_wp2_with fail
        go_loop [5, 6] (fun s5 s6 => ∃ (kz : Int) (x : Nat), s5 = .int .u64 x ∧ s6 = .int .i64 kz ∧ (i : Int) - 1 ≤ kz ∧ kz < m ∧ x < 18446744073709551616 ∧ Hid (x = val 65536 ((ds.take m).drop (kz + 1).toNat))) (fun _ s => (intOf s + 1).toNat)
        case atStart => exact ⟨(m : Int) - 1, 0, rfl, by congr 1; omega, by omega, by omega, by omega, by rw [Hid, show ((m : Int) - 1 + 1).toNat = m by omega, hlast.out]; rfl⟩
        case round =>
          obtain ⟨kz, x, rfl, rfl, h1, h2, hx, HX⟩ := hrel
          by_cases hk : (i : Int) ≤ kz
          · obtain ⟨k, rfl⟩ : ∃ k : Nat, kz = k := ⟨kz.toNat, by omega⟩
            have e1 : ((k : Int) + 1).toNat = k + 1 := by omega
            rw [e1] at HX
            have hkl : k < ds.length := by omega
            have hcc : wo.cell? ⟨b, off + k, none⟩ = some (.int .u64 (ds[k] : Nat)) := by rw [hb.cell (p := ⟨b, off + k, none⟩) hbk]; exact HCC.out k hkl
            have hdk := hd2.get k hkl
            have hx3 : x < 281474976710656 := by
              rw [HX.out]
              refine Nat.lt_of_lt_of_le (val_down_lt ds hd2 m (k + 1) i hm2 (by omega)) ?_
              exact Nat.le_trans (Nat.pow_le_pow_right (by decide) (show i + 4 - (k + 1) ≤ 3 by omega)) (by decide)
            have HV := Lib.hid (val_down ds m k hm1 (by omega))
            obtain ⟨d, hde⟩ : ∃ d, d = ds[k] := ⟨_, rfl⟩
            have hde2 : ds[k]?.getD 0 = d := by rw [hde]; simp [hkl]
            rw [hde2, ← HX.out] at HV
            rw [← hde] at hcc hdk
            clear hde hde2 e1 HX
            go_wp2_with fail
            refine ⟨⟨(k : Int) - 1, x * 65536 + d, by simp, by simp, by omega, by omega, by omega, ?_⟩, ?_⟩
            · rw [Hid, show ((k : Int) - 1 + 1).toNat = k by omega, HV.out]; omega
            · simp [intOf]
          · have hkz : kz = (i : Int) - 1 := by omega
            subst hkz
            rw [show ((i : Int) - 1 + 1).toNat = i by omega] at HX
            have HS2 := Lib.hid (show (os ++ [x]) ++ pack (ds.drop (i + 4)) = zs by rw [HX.out, List.append_assoc]; exact HS.out)
            clear HS HX HO hlast
            have hown := (ho.al (.cells #[.int .u64 (x : Int)] 66)).row
            have hcell : Hid ((wo.alloc (.cells #[.int .u64 (x : Int)] 66)).cell? ⟨wo.heap.size, 0, none⟩ = some (.int .u64 (x : Int))) := by
              have := (World.ownsRow_lit (e := 66) (base := 0) (size := 1) wo #[.int .u64 (x : Int)] 1 (Nat.zero_le _) (by decide) (by simp)).cellAt 0 (by decide)
              exact this
            go_wp2_with (at_builtin; refine wpList_append_own _ rfl _ _ 45 rfl w.heap.size 66 i0 (.int .u64 0) 1 8 Tryz.underlying45 hi hz0 hz1 hz2 rfl (by decide) _ os.length (os.map enc) rfl hown ⟨wo.heap.size, 0, none⟩ 1 1 [.int .u64 (x : Int)] rfl ?c1 ?c2 ?c3 ?c4 ?c5 ?c6 ?_)
            case c3 => rfl
            case c4 => unfold maxLen; omega
            case c5 => omega
            case c6 => exact Nat.le_trans hb.size (by simp)
            intro v' w2 hown2 hgr2 hnil2
            obtain ⟨pa2, ca2, rfl, ho2⟩ := own_more (d := x) rfl hown2 ho.dig hx
            have hb2 : Below w.heap.size w w2 := by
              refine (hb.alloc hb.size _).grown hgr2 (Nat.le_trans hb.size (by simp)) (fun g hg => ?_)
              rcases ho.cases with ⟨rfl, _⟩ | ⟨g', rfl, h1, _⟩
              · simp [Value.ownBlock] at hg
              · simp [Value.ownBlock] at hg; omega
            have hul3 : (os ++ [x]).length ≤ i + 4 := by simp; omega
            obtain ⟨us2, hus2⟩ : ∃ z, z = os ++ [x] := ⟨_, rfl⟩
            rw [← hus2] at HS2 hul3 ho2 ⊢
            clear hus2 hown2 hgr2 hnil2 hown hcell hb ho
            go_wp2_with fail
            go_roundw
            case rel => exact ⟨i + 4, pa2, ca2, us2, rfl, by simp, by omega, hul3, HS2, ho2, hb2⟩
            case measure => simp [intOf]; omega
      · go_wp2_with fail
        go_loop [5, 6] (fun s5 s6 => ∃ (kz : Int) (x : Nat), s5 = .int .u64 x ∧ s6 = .int .i64 kz ∧ (i : Int) - 1 ≤ kz ∧ kz < m ∧ x < 18446744073709551616 ∧ Hid (x = val 65536 ((ds.take m).drop (kz + 1).toNat))) (fun _ s => (intOf s + 1).toNat)
        case atStart => exact ⟨(m : Int) - 1, 0, rfl, by congr 1; omega, by omega, by omega, by omega, by rw [Hid, show ((m : Int) - 1 + 1).toNat = m by omega, hlast.out]; rfl⟩
        case round =>
          obtain ⟨kz, x, rfl, rfl, h1, h2, hx, HX⟩ := hrel
          by_cases hk : (i : Int) ≤ kz
          · obtain ⟨k, rfl⟩ : ∃ k : Nat, kz = k := ⟨kz.toNat, by omega⟩
            have e1 : ((k : Int) + 1).toNat = k + 1 := by omega
            rw [e1] at HX
            have hkl : k < ds.length := by omega
            have hcc : wo.cell? ⟨b, off + k, none⟩ = some (.int .u64 (ds[k] : Nat)) := by rw [hb.cell (p := ⟨b, off + k, none⟩) hbk]; exact HCC.out k hkl
            have hdk := hd2.get k hkl
            have hx3 : x < 281474976710656 := by
              rw [HX.out]
              refine Nat.lt_of_lt_of_le (val_down_lt ds hd2 m (k + 1) i hm2 (by omega)) ?_
              exact Nat.le_trans (Nat.pow_le_pow_right (by decide) (show i + 4 - (k + 1) ≤ 3 by omega)) (by decide)
            have HV := Lib.hid (val_down ds m k hm1 (by omega))
            obtain ⟨d, hde⟩ : ∃ d, d = ds[k] := ⟨_, rfl⟩
            have hde2 : ds[k]?.getD 0 = d := by rw [hde]; simp [hkl]
            rw [hde2, ← HX.out] at HV
            rw [← hde] at hcc hdk
            clear hde hde2 e1 HX
            go_wp2_with fail
            refine ⟨⟨(k : Int) - 1, x * 65536 + d, by simp, by simp, by omega, by omega, by omega, ?_⟩, ?_⟩
            · rw [Hid, show ((k : Int) - 1 + 1).toNat = k by omega, HV.out]; omega
            · simp [intOf]
          · have hkz : kz = (i : Int) - 1 := by omega
            subst hkz
            rw [show ((i : Int) - 1 + 1).toNat = i by omega] at HX
            have HS2 := Lib.hid (show (os ++ [x]) ++ pack (ds.drop (i + 4)) = zs by rw [HX.out, List.append_assoc]; exact HS.out)
            clear HS HX HO hlast
            have hown := (ho.al (.cells #[.int .u64 (x : Int)] 66)).row
            have hcell : Hid ((wo.alloc (.cells #[.int .u64 (x : Int)] 66)).cell? ⟨wo.heap.size, 0, none⟩ = some (.int .u64 (x : Int))) := by
              have := (World.ownsRow_lit (e := 66) (base := 0) (size := 1) wo #[.int .u64 (x : Int)] 1 (Nat.zero_le _) (by decide) (by simp)).cellAt 0 (by decide)
              exact this
            go_wp2_with (at_builtin; refine wpList_append_own _ rfl _ _ 45 rfl w.heap.size 66 i0 (.int .u64 0) 1 8 Tryz.underlying45 hi hz0 hz1 hz2 rfl (by decide) _ os.length (os.map enc) rfl hown ⟨wo.heap.size, 0, none⟩ 1 1 [.int .u64 (x : Int)] rfl ?d1 ?d2 ?d3 ?d4 ?d5 ?d6 ?_)
            case d3 => rfl
            case d4 => unfold maxLen; omega
            case d5 => omega
            case d6 => exact Nat.le_trans hb.size (by simp)
            intro v' w2 hown2 hgr2 hnil2
            obtain ⟨pa2, ca2, rfl, ho2⟩ := own_more (d := x) rfl hown2 ho.dig hx
            have hb2 : Below w.heap.size w w2 := by
              refine (hb.alloc hb.size _).grown hgr2 (Nat.le_trans hb.size (by simp)) (fun g hg => ?_)
              rcases ho.cases with ⟨rfl, _⟩ | ⟨g', rfl, h1, _⟩
              · simp [Value.ownBlock] at hg
              · simp [Value.ownBlock] at hg; omega
            have hul3 : (os ++ [x]).length ≤ i + 4 := by simp; omega
            obtain ⟨us2, hus2⟩ : ∃ z, z = os ++ [x] := ⟨_, rfl⟩
            rw [← hus2] at HS2 hul3 ho2 ⊢
            clear hus2 hown2 hgr2 hnil2 hown hcell hb ho
            go_wp2_with fail
            go_roundw
            case rel => exact ⟨i + 4, pa2, ca2, us2, rfl, by simp, by omega, hul3, HS2, ho2, hb2⟩
            case measure => simp [intOf]; omega
    · have e : os = zs := by have := HO.out; rw [List.drop_eq_nil_of_le (by omega), pack_nil, List.append_nil] at this; exact this
      subst e
      have hf : Hid (Gives 66 w os (.returned (.slice pa os.length ca)) wr) := ⟨pa, ca, rfl, ho, hb⟩
      clear ho hb HO
      go_wp2
      go_ret
      exact hf.out
end Go.Proofs.RN
/- The document's Trim, Of, Small of layer 2. -/
namespace Go.Proofs.RN
open Go.RowKit
open Go.Proofs
open Go.Proofs.NP
open Go.Proofs.SL
set_option linter.unusedVariables false
set_option maxRecDepth 20000
set_option linter.unusedSimpArgs false

variable {w : World} {a b : Option Addr} {ca cb l k : Nat} {xs ys zs : List Nat}

theorem digits' {ds : List Nat} (hx : Rd w a ca xs) (lx : xs.length = l) (h : l ≤ 100000) (hz : ds = D (V xs)) :
    Calls Tryz.prog 56 #[.slice a l ca] w (Gives 66 w ds) := by
  subst hz; exact digits a ca l xs w hx lx h
theorem join' (hx : Rd w a ca xs) (hd : Dig 65536 xs) (lx : xs.length = l) (h : l ≤ 1000000) (hz : zs = L (U xs)) :
    Calls Tryz.prog 55 #[.slice a l ca] w (Gives 66 w zs) := by
  subst hz; exact join a ca l xs w hx hd lx h

/-- one call gives what it tells out of what another one gave -/
theorem Gives.step {e : TypeId} {w w1 w2 : World} {q : Option Addr} {d : Nat} {zs : List Nat} (hb : Below w.heap.size w w1) (ho : Own e w1.heap.size w2 q d zs) (hb2 : Below w1.heap.size w1 w2) :
    Gives e w zs (.returned (.slice q zs.length d)) w2 := ⟨q, d, rfl, ho.mono hb.size, hb.trans (hb2.mono hb.size)⟩

theorem trim (hx : Rd w a ca xs) (lx : xs.length = l) (h : l ≤ 100000) (hz : zs = L (V xs)) :
    Calls Tryz.prog 38 #[.slice a l ca] w (Gives 66 w zs) := by
  obtain ⟨ds, hds⟩ : ∃ ds, ds = D (V xs) := ⟨_, rfl⟩
  have hdd : Dig 65536 ds := by rw [hds]; exact Dd _
  have hdl : ds.length ≤ 400000 := by have := D_len hx.ws; rw [hds]; omega
  have HZ := Lib.hid (show zs = L (U ds) by rw [hz, hds, UD])
  have HC := Lib.hid (digits' hx lx h hds)
  clear hz hds
  go_enter Tryz.func38, Tryz.ntmps38
  go_wp2_with fail
  refine HC.out.mono ?_
  rintro e w1 ⟨p, c, rfl, ho, hb⟩
  clear HC
  have HJ := Lib.hid (join' (zs := zs) ho.rd hdd rfl (by omega) HZ.out)
  clear HZ ho
  go_wp2_with fail
  refine HJ.out.mono ?_
  rintro e w2 ⟨q, d, rfl, ho2, hb2⟩
  have hf := Lib.hid (Gives.step hb ho2 hb2)
  clear HJ ho2 hb2 hb
  go_wp2
  go_ret
  exact hf.out

theorem of (n : Nat) (w : World) (hn : n < 18446744073709551616) (hz : zs = L n) :
    Calls Tryz.prog 60 #[.int .u64 (n : Int)] w (Gives 66 w zs) := by
  have hws : Ws [n] := by intro x hx; simp at hx; omega
  have HZ := Lib.hid (show zs = L (V [n]) by rw [hz]; simp [V, val])
  clear hz
  go_enter Tryz.func60, Tryz.ntmps60
  go_wp2_with fail
  refine (trim (zs := zs) (xs := [n]) (Rd.litn [n] _ hws rfl (by simp) rfl) rfl (by simp) HZ.out).mono ?_
  rintro e w2 ⟨q, d, rfl, ho2, hb2⟩
  have hf := Lib.hid (Gives.step ((Below.refl w.heap.size w).alloc (Nat.le_refl _) (.cells #[.int .u64 (n : Int)] 66)) ho2 hb2)
  clear ho2 hb2
  go_wp2
  go_ret
  exact hf.out

theorem small_no (hx : Rd w a ca xs) (lx : xs.length = l) (h : l ≤ 100000) (hv : 18446744073709551616 ≤ V xs) :
    Calls Tryz.prog 59 #[.slice a l ca] w fun e w' => e = .returned (.tuple #[.int .u64 0, .bool false]) ∧ Kp w w' := by
  obtain ⟨zs, hz⟩ : ∃ zs, zs = L (V xs) := ⟨_, rfl⟩
  have hl : 1 < zs.length := by rw [hz]; exact digs_length_lt _ (by decide) 1 _ (by simpa using hv)
  have HC := Lib.hid (trim hx lx h hz)
  clear hz
  go_enter Tryz.func59, Tryz.ntmps59
  go_wp2_with fail
  refine HC.out.mono ?_
  rintro e w1 ⟨p, c, rfl, ho, hb⟩
  clear HC
  have hf := Lib.hid hb
  clear hb ho
  go_wp2_with fail
  go_ret2
  exact ⟨rfl, hf.out⟩
theorem small_ok (hx : Rd w a ca xs) (lx : xs.length = l) (h : l ≤ 100000) (n : Nat) (hn : n = V xs) (hv : n < 18446744073709551616) :
    Calls Tryz.prog 59 #[.slice a l ca] w fun e w' => e = .returned (.tuple #[.int .u64 (n : Nat), .bool true]) ∧ Kp w w' := by
  obtain ⟨zs, hz⟩ : ∃ zs, zs = L (V xs) := ⟨_, rfl⟩
  have HC := Lib.hid (trim hx lx h hz)
  have hcase : (zs = [] ∧ n = 0) ∨ zs = [n] := by
    rw [← hn] at hz
    by_cases h0 : n = 0
    · left; subst h0; exact ⟨by rw [hz]; rfl, rfl⟩
    · right
      have e : L n = n % 18446744073709551616 :: L (n / 18446744073709551616) := digs_pos _ _ (by decide) h0
      rw [hz, e, Nat.div_eq_of_lt hv, Nat.mod_eq_of_lt hv]; rfl
  clear hz hn
  rcases hcase with ⟨rfl, rfl⟩ | rfl
  · go_enter Tryz.func59, Tryz.ntmps59
    go_wp2_with fail
    refine HC.out.mono ?_
    rintro e w1 ⟨p, c, rfl, ho, hb⟩
    clear HC
    have hf := Lib.hid hb
    clear hb ho
    go_wp2_with fail
    go_ret2
    exact ⟨rfl, hf.out⟩
  · go_enter Tryz.func59, Tryz.ntmps59
    go_wp2_with fail
    refine HC.out.mono ?_
    rintro e w1 ⟨p, c, rfl, ho, hb⟩
    clear HC
    obtain ⟨g, rfl, hg1, hg2⟩ := ho.some_of (by simp)
    have hc := ho.cell 0 (by simp)
    simp at hc
    have hf := Lib.hid hb
    clear hb ho
    go_wp2_with fail
    go_ret2
    exact ⟨rfl, hf.out⟩
end Go.Proofs.RN
/- The document's Cmp, Len, Bit of layer 2. -/
namespace Go.Proofs.RN
open Go.RowKit
open Go.Proofs
open Go.Proofs.NP
open Go.Proofs.SL
set_option linter.unusedVariables false
set_option maxRecDepth 20000
set_option linter.unusedSimpArgs false
variable {w : World} {a b : Option Addr} {ca cb l k : Nat} {xs ys zs : List Nat}

set_option maxHeartbeats 2000000 in
theorem cmp (hx : Rd w a ca xs) (hy : Rd w b cb ys) (lx : xs.length = l) (ly : ys.length = k) (h : l ≤ 100000) (h' : k ≤ 100000) (z : Int) (hz : z = NT.cmpI (V xs) (V ys)) :
    Calls Tryz.prog 61 #[.slice a l ca, .slice b k cb] w fun e w' => e = .returned (.int .i64 z) ∧ Kp w w' := by
  obtain ⟨ds, hds⟩ : ∃ ds, ds = D (V xs) := ⟨_, rfl⟩
  obtain ⟨es, hes⟩ : ∃ es, es = D (V ys) := ⟨_, rfl⟩
  have hdl : ds.length ≤ 400000 := by have := D_len hx.ws; rw [hds]; omega
  have hel : es.length ≤ 400000 := by have := D_len hy.ws; rw [hes]; omega
  have HL := Lib.hid (show ds.length < es.length → z = -1 by intro h; rw [hz, NT.cmpI, if_pos (Dlen_lt (by rw [← hds, ← hes]; exact h))])
  have HG := Lib.hid (show es.length < ds.length → z = 1 by
    intro h
    have := Dlen_lt (x := V ys) (y := V xs) (by rw [← hds, ← hes]; exact h)
    rw [hz, NT.cmpI, if_neg (by omega), if_pos this])
  have DX := Lib.hid (show ∀ i : Nat, ds[i]?.getD 0 = dg 65536 (V xs) i from fun i => by rw [hds]; exact Ddg _ i)
  have DY := Lib.hid (show ∀ i : Nat, es[i]?.getD 0 = dg 65536 (V ys) i from fun i => by rw [hes]; exact Ddg _ i)
  have HLT := Lib.hid (lt_of_dg 65536 (by decide) (V xs) (V ys))
  have HGT := Lib.hid (lt_of_dg 65536 (by decide) (V ys) (V xs))
  have HEQ := Lib.hid (eq_of_dg 65536 (by decide) (V xs) (V ys))
  have HZ := Lib.hid hz
  have HC := Lib.hid (digits' hx lx h hds)
  have HD := Lib.hid (fun (w1 : World) (hy : Rd w1 b cb ys) => digits' hy ly h' hes)
  have HY := Lib.hid hy
  clear hz hds hes hx hy lx ly
  go_enter Tryz.func61, Tryz.ntmps61
  go_wp2_with fail
  refine HC.out.mono ?_
  rintro e w1 ⟨p, c, rfl, ho, hb⟩
  have hr := ho.rd
  have HY2 := HY.out.nx hb
  clear HC HY ho
  go_wp2_with fail
  refine (HD.out w1 HY2).mono ?_
  rintro e w2 ⟨q, d, rfl, ho2, hb2⟩
  have hr2 := ho2.rd
  have hr1 := hr.nx hb2
  have hkp : Hid (Kp w w2) := Kp.nx hb hb2
  clear HD HY2 hr ho2 hb hb2
  rcases Nat.lt_trichotomy ds.length es.length with h1 | h1 | h1
  · have hz := Lib.hid (HL.out h1)
    have h1' : ¬ (ds.length : Int) = es.length := by omega
    go_wp2_with fail
    go_ret
    exact ⟨W.ret_int hz.out.symm, hkp.out⟩
  · obtain ⟨m, hm⟩ : ∃ m, ds.length = m := ⟨_, rfl⟩
    rw [hm] at h1
    replace h1 := h1.symm
    have HM := Lib.hid hm
    have HM2 := Lib.hid h1
    rw [hm, h1]
    rw [hm] at hdl
    clear hm h1 hel HL HG
    go_wp2_with fail
    go_loopw [7] (fun s wr => ∃ k : Nat, s = .int .i64 ((k : Int) - 1) ∧ k ≤ m ∧ Hid (∀ j, k ≤ j → dg 65536 (V xs) j = dg 65536 (V ys) j) ∧ ∃ kk, wr = w2.drewN kk) (fun s _ => (intOf s + 1).toNat)
    case atStart => exact ⟨m, rfl, by omega, fun j hj => by rw [← DX.out, ← DY.out]; simp [show ds.length ≤ j by rw [HM.out]; exact hj, show es.length ≤ j by rw [HM2.out]; exact hj], 0, rfl⟩
    case round =>
      obtain ⟨k, rfl, hk, hzz, kk, rfl⟩ := hrel
      cases k with
      | zero =>
        have e : Hid (z = 0) := by rw [Hid, HZ.out, NT.cmpI, HEQ.out (fun j => hzz.out j (by omega))]; simp
        go_wp2
        go_ret
        exact ⟨W.ret_int e.out.symm, Kp.dr hkp.out _⟩
      | succ n =>
        rw [show ((n + 1 : Nat) : Int) - 1 = (n : Int) by omega]
        have n1 : n < ds.length := by rw [HM.out]; omega
        have n2 : n < es.length := by rw [HM2.out]; omega
        rcases hr1.at' with h0 | ⟨b1, o1, rfl, _, hc1⟩
        · rw [h0] at n1; simp at n1
        rcases hr2.at' with h0 | ⟨b2, o2, rfl, _, hc2⟩
        · rw [h0] at n2; simp at n2
        have c1 := hc1 n n1
        have c2 := hc2 n n2
        have d1 := DX.out n
        have d2 := DY.out n
        have hL := HLT.out n (fun j hj => hzz.out j hj)
        have hG := HGT.out n (fun j hj => (hzz.out j hj).symm)
        rw [← d1, ← d2] at hL hG
        have hE : ds[n]?.getD 0 = es[n]?.getD 0 → Hid (∀ j, n ≤ j → dg 65536 (V xs) j = dg 65536 (V ys) j) := by
          intro h j hj
          rcases Nat.eq_or_lt_of_le hj with rfl | h'
          · rw [← d1, ← d2, h]
          · exact hzz.out j h'
        have e1 : ds[n]?.getD 0 = ds[n] := by simp [n1]
        have e2 : es[n]?.getD 0 = es[n] := by simp [n2]
        rw [e1, e2] at hL hG hE
        obtain ⟨x, ex⟩ : ∃ x, ds[n] = x := ⟨_, rfl⟩
        obtain ⟨y, ey⟩ : ∃ y, es[n] = y := ⟨_, rfl⟩
        rw [ex] at hL hE hG c1
        rw [ey] at hL hE hG c2
        have b1 : x < 18446744073709551616 := by rw [← ex]; exact hr1.ws.get n n1
        have b2 : y < 18446744073709551616 := by rw [← ey]; exact hr2.ws.get n n2
        clear d1 d2 e1 e2 ex ey hc1 hc2 n1 n2
        rcases Nat.lt_trichotomy x y with h | h | h
        · have e : Hid (z = -1) := by rw [Hid, HZ.out, NT.cmpI, if_pos (hL h)]
          clear hL hG hE
          go_wp2_with fail
          go_quiet (fail)
          go_wp2
          go_ret
          exact ⟨W.ret_int e.out.symm, Kp.dr (Kp.dr hkp.out _) _⟩
        · subst h
          have HE := hE rfl
          clear hL hG hE
          go_wp2_with fail
          go_quiet (fail)
          go_wp2_with fail
          go_quiet (fail)
          go_wp2
          go_roundw
          case rel => exact ⟨n, by go_num, by omega, HE, _, rfl⟩
          case measure => simp [intOf]
        · have e : Hid (z = 1) := by have := hG h; rw [Hid, HZ.out, NT.cmpI, if_neg (by omega), if_pos this]
          have h' : ¬ ((x : Int) < (y : Int)) := by omega
          clear hL hG hE
          go_wp2_with fail
          go_quiet (fail)
          go_wp2_with fail
          go_quiet (fail)
          go_wp2
          go_ret
          exact ⟨W.ret_int e.out.symm, Kp.dr (Kp.dr (Kp.dr hkp.out _) _) _⟩
  · have hz := Lib.hid (HG.out h1)
    have h1' : ¬ (ds.length : Int) = es.length := by omega
    go_wp2_with fail
    go_ret
    exact ⟨W.ret_int hz.out.symm, hkp.out⟩

set_option maxHeartbeats 1000000 in
theorem len (hx : Rd w a ca xs) (lx : xs.length = l) (h : l ≤ 100000) (z : Nat) (hz : z = bitLen (V xs)) :
    Calls Tryz.prog 65 #[.slice a l ca] w fun e w' => e = .returned (.int .i64 (z : Nat)) ∧ Kp w w' := by
  obtain ⟨ds, hds⟩ : ∃ ds, ds = D (V xs) := ⟨_, rfl⟩
  have hdl : ds.length ≤ 400000 := by have := D_len hx.ws; rw [hds]; omega
  have HZ := Lib.hid (show 0 < ds.length → z = 16 * (ds.length - 1) + bitLen (ds[ds.length - 1]?.getD 0) by
    intro h; rw [hds] at h ⊢; rw [hz]; exact bitLen_D _ h)
  have H0 := Lib.hid (show ds.length = 0 → z = 0 by
    intro h; rw [hds, D_pos_iff] at h; rw [hz, h]; rfl)
  have HC := Lib.hid (digits' hx lx h hds)
  have HD := Lib.hid (show Dig 65536 ds by rw [hds]; exact Dd _)
  clear hz hds hx lx
  go_enter Tryz.func65, Tryz.ntmps65
  go_wp2_with fail
  refine HC.out.mono ?_
  rintro e w1 ⟨p, c, rfl, ho, hb⟩
  have hr := ho.rd
  have hkp : Hid (Kp w w1) := hb
  clear HC ho hb
  rcases Nat.eq_zero_or_pos ds.length with h0 | h0
  · have hz := Lib.hid (H0.out h0)
    rw [h0]
    clear hdl h0
    go_wp2_with fail
    go_ret
    exact ⟨W.ret_int (by rw [hz.out]; rfl), hkp.out⟩
  · have hz := HZ.out h0
    obtain ⟨m, hm⟩ : ∃ m, ds.length = m + 1 := ⟨ds.length - 1, by omega⟩
    rcases hr.at' with h1 | ⟨b1, o1, rfl, _, hc1⟩
    · rw [h1] at h0; simp at h0
    have hml : m < ds.length := by omega
    have c1 := hc1 m hml
    have hd := HD.out.get m hml
    rw [hm] at hz hdl ⊢
    simp only [Nat.add_sub_cancel] at hz
    have e1 : ds[m]?.getD 0 = ds[m] := by simp [hml]
    rw [e1] at hz
    obtain ⟨x, ex⟩ : ∃ x, ds[m] = x := ⟨_, rfl⟩
    rw [ex] at hz c1 hd
    have hx16 : bitLen x ≤ 16 := (bitLen_le_iff x 16).2 (by simpa using hd)
    have HZ2 := Lib.hid hz
    clear hz ex e1 hml hm h0 hc1 HZ H0 HD hr
    go_wp2_with fail
    go_loop [4, 5] (fun s4 s5 => ∃ n y : Nat, s4 = .int .i64 n ∧ s5 = .int .u64 y ∧ n ≤ 16 * m + 16 ∧ y < 65536 ∧ n + bitLen y ≤ z ∧ z ≤ n + bitLen y ∧ z ≤ 16 * m + 16) (fun _ s => (intOf s).toNat)
    case atStart => exact ⟨16 * m, x, by simp, rfl, by omega, hd, by rw [HZ2.out]; omega, by rw [HZ2.out]; omega, by rw [HZ2.out]; omega⟩
    case round =>
      obtain ⟨n, y, rfl, rfl, hn, hy, hz1, hz2, hz3⟩ := hrel
      by_cases hy0 : 0 < y
      · have hh := bitLen_half y (by omega)
        have HH := Lib.hid hh
        have e : bitLen y = bitLen (y / 2) + 1 := hh
        rw [e] at hz1 hz2
        clear e hh
        go_wp2_with fail
        refine ⟨⟨n + 1, y / 2, by simp, by simp, by omega, by omega, by omega, by omega, by omega⟩, ?_⟩
        simp [intOf]; omega
      · obtain rfl : y = 0 := by omega
        have e : n = z := by rw [show bitLen 0 = 0 from rfl] at hz1 hz2; omega
        have E := Lib.hid e
        clear e hz1 hz2
        go_wp2_with fail
        go_ret
        exact ⟨W.ret_int (by rw [E.out]), hkp.out⟩

set_option maxHeartbeats 1000000 in
theorem bit_no (hx : Rd w a ca xs) (lx : xs.length = l) (h : l ≤ 100000) (i : Int) (hi : i < 0) :
    Calls Tryz.prog 57 #[.slice a l ca, .int .i64 i] w fun e w' => e = .returned (.bool false) ∧ Kp w w' := by
  obtain ⟨ds, hds⟩ : ∃ ds, ds = D (V xs) := ⟨_, rfl⟩
  have HC := Lib.hid (digits' hx lx h hds)
  clear hds hx lx
  go_enter Tryz.func57, Tryz.ntmps57
  go_wp2_with fail
  refine HC.out.mono ?_
  rintro e w1 ⟨p, c, rfl, ho, hb⟩
  have hkp : Hid (Kp w w1) := hb
  clear HC ho hb
  go_wp2_with fail
  go_ret
  exact ⟨rfl, hkp.out⟩

set_option maxHeartbeats 1000000 in
theorem bit (hx : Rd w a ca xs) (lx : xs.length = l) (h : l ≤ 100000) (i : Nat) (hi : i ≤ 9223372036854775807) (z : Bool) (hz : z = (V xs / 2 ^ i % 2 == 1)) :
    Calls Tryz.prog 57 #[.slice a l ca, .int .i64 (i : Int)] w fun e w' => e = .returned (.bool z) ∧ Kp w w' := by
  obtain ⟨ds, hds⟩ : ∃ ds, ds = D (V xs) := ⟨_, rfl⟩
  have hdl : ds.length ≤ 400000 := by have := D_len hx.ws; rw [hds]; omega
  have H0 := Lib.hid (show ds.length ≤ i / 16 → z = false by
    intro h; rw [hz, bit_D_none _ _ (by rw [← hds]; exact h)]; rfl)
  have H1 := Lib.hid (show z = (ds[i / 16]?.getD 0 / 2 ^ (i % 16) % 2 == 1) by rw [hz, hds, Ddg, bit_D])
  have HC := Lib.hid (digits' hx lx h hds)
  have HD := Lib.hid (show Dig 65536 ds by rw [hds]; exact Dd _)
  clear hz hds hx lx
  go_enter Tryz.func57, Tryz.ntmps57
  go_wp2_with fail
  refine HC.out.mono ?_
  rintro e w1 ⟨p, c, rfl, ho, hb⟩
  have hsl := ho.rd
  have hkp : Hid (Kp w w1) := hb
  clear HC ho hb
  rcases Nat.lt_or_ge (i / 16) ds.length with hql | hql
  · rcases hsl.at' with h0 | ⟨b1, o1, rfl, _, hc1⟩
    · rw [h0] at hql; simp at hql
    have c1 := hc1 (i / 16) hql
    have hd := HD.out.get (i / 16) hql
    have e1 : ds[i / 16]?.getD 0 = ds[i / 16] := by simp [hql]
    have h1 := H1.out
    rw [e1] at h1
    obtain ⟨x, ex⟩ : ∃ x, ds[i / 16] = x := ⟨_, rfl⟩
    rw [ex] at h1 c1 hd
    have HZ := Lib.hid h1
    clear h1 ex e1 hc1 H0 H1 hsl
    go_wp2_with fail
    go_loop [6, 7] (fun s6 s7 => ∃ y k : Nat, s6 = .int .u64 y ∧ s7 = .int .i64 k ∧ k ≤ i % 16 ∧ y < 65536 ∧ Hid (y = x / 2 ^ k)) (fun _ s => i % 16 - (intOf s).toNat)
    case atStart => exact ⟨x, 0, rfl, rfl, by omega, hd, by simp [Hid]⟩
    case round =>
      obtain ⟨y, k, rfl, rfl, hk, hy, HY⟩ := hrel
      by_cases hlt : k < i % 16
      · have HY2 : Hid (y / 2 = x / 2 ^ (k + 1)) := by rw [Hid, HY.out, Nat.div_div_eq_div_mul, Nat.pow_succ]
        clear HY
        go_wp2_with fail
        refine ⟨⟨y / 2, k + 1, by simp, by simp, by omega, by omega, HY2⟩, ?_⟩
        simp [intOf]; omega
      · have hkr : k = i % 16 := by omega
        have E := Lib.hid (show (((y : Int) % 2 == 1) : Bool) = z by rw [HZ.out, ← hkr, ← HY.out, Bool.eq_iff_iff]; simp; omega)
        clear HY HZ
        go_wp2_with fail
        go_ret
        exact ⟨W.ret_bool E.out, hkp.out⟩
  · have hz := Lib.hid (H0.out hql)
    clear H0 H1 hsl
    go_wp2_with fail
    go_ret
    exact ⟨W.ret_bool hz.out.symm, hkp.out⟩
end Go.Proofs.RN
/- The document's Add of layer 2. -/
namespace Go.Proofs.RN
open Go.RowKit
open Go.Proofs
open Go.Proofs.NP
open Go.Proofs.SL
set_option linter.unusedVariables false
set_option maxRecDepth 20000
set_option linter.unusedSimpArgs false
variable {w : World} {a b : Option Addr} {ca cb l k : Nat} {xs ys zs : List Nat}

set_option maxHeartbeats 4000000 in
theorem add (hx : Rd w a ca xs) (hy : Rd w b cb ys) (lx : xs.length = l) (ly : ys.length = k) (h : l ≤ 100000) (h' : k ≤ 100000) (hz : zs = L (V xs + V ys)) :
    Calls Tryz.prog 64 #[.slice a l ca, .slice b k cb] w (Gives 66 w zs) := by
  obtain ⟨i0, hi, hz0, hz1, hz2⟩ := info_parts NT.Tryz.info66
  obtain ⟨X, hX⟩ : ∃ X, X = V xs := ⟨_, rfl⟩
  obtain ⟨Y, hY⟩ : ∃ Y, Y = V ys := ⟨_, rfl⟩
  obtain ⟨ds, hds⟩ : ∃ ds, ds = D X := ⟨_, rfl⟩
  obtain ⟨es, hes⟩ : ∃ es, es = D Y := ⟨_, rfl⟩
  have hdl : ds.length ≤ 400000 := by have := D_len hx.ws; rw [hds, hX]; omega
  have hel : es.length ≤ 400000 := by have := D_len hy.ws; rw [hes, hY]; omega
  rw [← hX, ← hY] at hz
  obtain ⟨M, m1, m2, m3⟩ : ∃ M, ds.length ≤ M ∧ es.length ≤ M ∧ M ≤ 400000 := ⟨max ds.length es.length, by omega, by omega, by omega⟩
  have DX := Lib.hid (show ∀ i : Nat, ds[i]?.getD 0 = dg 65536 X i from fun i => by rw [hds]; exact Ddg _ i)
  have DY := Lib.hid (show ∀ i : Nat, es[i]?.getD 0 = dg 65536 Y i from fun i => by rw [hes]; exact Ddg _ i)
  have ST := Lib.hid (fun i => add_step 65536 X Y i (by decide))
  have C0 := Lib.hid (cin_zero 65536 X Y)
  have CE := Lib.hid (show ∀ i, M < i → cin 65536 X Y i = 0 from fun i hi => cin_end X Y i (by rw [← hds]; omega) (by rw [← hes]; omega))
  have CL := Lib.hid (fun i => cin_le 65536 X Y i (by decide))
  have AE := Lib.hid (show ∀ i, ds.length ≤ i → es.length ≤ i → cin 65536 X Y i = 0 → val 65536 (low 65536 (X + Y) i) = X + Y from fun i h1 h2 h3 => add_end X Y i (by rw [← hds]; exact h1) (by rw [← hes]; exact h2) h3)
  have HZ := Lib.hid hz
  have HC := Lib.hid (digits' hx lx h (hds.trans (by rw [hX])))
  have HD := Lib.hid (fun (w1 : World) (hy : Rd w1 b cb ys) => digits' hy ly h' (hes.trans (by rw [hY])))
  have HY := Lib.hid hy
  clear hz hds hes hx hy lx ly hX hY
  go_enter Tryz.func64, Tryz.ntmps64
  go_wp2_with fail
  refine HC.out.mono ?_
  rintro e w1 ⟨p, c, rfl, ho, hb⟩
  have hr := ho.rd
  have HY2 := HY.out.nx hb
  clear HC HY ho
  go_wp2_with fail
  refine (HD.out w1 HY2).mono ?_
  rintro e w2 ⟨q, d, rfl, ho2, hb2⟩
  have hr2 := ho2.rd
  have hr1 := hr.nx hb2
  have hkp : Hid (Kp w w2) := Kp.nx hb hb2
  have WX := Lib.hid (show ∀ i (h : i < ds.length), ds[i] < 65536 from fun i h => by have := DX.out i; simp [h] at this; rw [this]; exact dg_lt _ _ _ (by decide))
  have WY := Lib.hid (show ∀ i (h : i < es.length), es[i] < 65536 from fun i h => by have := DY.out i; simp [h] at this; rw [this]; exact dg_lt _ _ _ (by decide))
  clear HD HY2 hr ho2 hb hb2
  go_wp2_with fail
  go_loopw [7, 8, 9] (fun s7 s8 s9 wr => ∃ (i cy : Nat) (pa : Option Addr) (cc : Nat) (os : List Nat), s7 = .slice pa os.length cc ∧ s8 = .int .u64 cy ∧ s9 = .int .i64 i ∧ i ≤ M + 1 ∧ os.length ≤ i ∧ cy ≤ 1 ∧ Hid (cy = cin 65536 X Y i) ∧ Hid (os = low 65536 (X + Y) i) ∧ Own 66 w2.heap.size wr pa cc os ∧ Below w2.heap.size w2 wr) (fun _ _ s _ => M + 1 - (intOf s).toNat)
  case atStart => exact ⟨0, 0, none, 0, [], rfl, rfl, rfl, by omega, by simp, by omega, C0.out.symm, rfl, ⟨Dig.nil _, World.ownsRow_nil w2 _ _ _⟩, Below.refl _ _⟩
  case round =>
    obtain ⟨i, cy, pa, cc, os, rfl, rfl, rfl, hi', hol, hcy, HCY, HO, ho, hb⟩ := hrel
    by_cases hgo : ds.length ≤ i ∧ es.length ≤ i ∧ cy = 0
    · obtain ⟨g1, g2, rfl⟩ := hgo
      have HA := AE.out i g1 g2 HCY.out.symm
      have hdo : Dig 65536 os := by rw [HO.out]; exact low_dig _ _ _ (by decide)
      have hol2 : os.length ≤ 1000000 := by omega
      have HJ := Lib.hid (join' (zs := zs) ho.rd hdo rfl hol2 (by rw [HZ.out]; congr 1; show _ = val 65536 os; rw [HO.out]; exact HA.symm))
      have hbb := Lib.hid (Kp.nx hkp.out hb)
      clear HA hdo ho hb HCY HO
      go_wp2_with fail
      refine HJ.out.mono ?_
      rintro e w3 ⟨q3, d3, rfl, ho3, hb3⟩
      have hf := Lib.hid (Gives.step hbb.out ho3 hb3)
      clear HJ ho3 hb3
      go_wp2
      go_ret
      exact hf.out
    · have hiM : i ≤ M := by
        rcases Nat.lt_or_ge M i with h1 | h1
        · have := CE.out i h1; rw [← HCY.out] at this; omega
        · exact h1
      have hst := ST.out i
      rw [← HCY.out, ← DX.out, ← DY.out] at hst
      obtain ⟨wo, rfl⟩ : ∃ wo : World, wo = wr := ⟨_, rfl⟩
      rcases Nat.lt_or_ge i ds.length with g1 | g1 <;> rcases Nat.lt_or_ge i es.length with g2 | g2
      · rcases hr1.at' with h0 | ⟨b1, o1, rfl, hk1, hc1⟩
        · rw [h0] at g1; simp at g1
        have c1 : wo.cell? ⟨b1, o1 + i, none⟩ = some (.int .u64 (ds[i] : Nat)) := by rw [hb.cell (p := ⟨b1, o1 + i, none⟩) hk1]; exact hc1 i g1
        have wx := WX.out i g1
        have ex : ds[i]?.getD 0 = ds[i] := by simp [g1]
        rw [ex] at hst
        obtain ⟨x, hx⟩ : ∃ x, x = ds[i] := ⟨_, rfl⟩
        rw [← hx] at c1 wx hst
        clear ex hx hc1
        rcases hr2.at' with h0 | ⟨b2, o2, rfl, hk2, hc2⟩
        · rw [h0] at g2; simp at g2
        have c2 : wo.cell? ⟨b2, o2 + i, none⟩ = some (.int .u64 (es[i] : Nat)) := by rw [hb.cell (p := ⟨b2, o2 + i, none⟩) hk2]; exact hc2 i g2
        have wy := WY.out i g2
        have ey : es[i]?.getD 0 = es[i] := by simp [g2]
        rw [ey] at hst
        obtain ⟨y, hy⟩ : ∃ y, y = es[i] := ⟨_, rfl⟩
        rw [← hy] at c2 wy hst
        clear ey hy hc2
        have HST := Lib.hid hst; clear hst hgo
        have hown := (ho.al (.cells #[.int .u64 (((cy : Int) + (x : Int) + (y : Int)) % 65536)] 66)).row
        have hcell : Hid ((wo.alloc (.cells #[.int .u64 (((cy : Int) + (x : Int) + (y : Int)) % 65536)] 66)).cell? ⟨wo.heap.size, 0, none⟩ = some (.int .u64 (((cy : Int) + (x : Int) + (y : Int)) % 65536))) := (World.ownsRow_lit (e := 66) (base := 0) (size := 1) wo #[.int .u64 (((cy : Int) + (x : Int) + (y : Int)) % 65536)] 1 (Nat.zero_le _) (by decide) (by simp)).cellAt 0 (by decide)
        go_wp2_with (at_builtin; refine wpList_append_own _ rfl _ _ 44 rfl w2.heap.size 66 i0 (.int .u64 0) 1 8 Tryz.underlying44 hi hz0 hz1 hz2 rfl (by decide) _ os.length (os.map enc) rfl hown ⟨wo.heap.size, 0, none⟩ 1 1 [.int .u64 (((cy : Int) + (x : Int) + (y : Int)) % 65536)] rfl ?c1 ?c2 ?c3 ?c4 ?c5 ?c6 ?_)
        case c1 => rfl
        case c2 =>
          intro j u hu
          cases j with
          | zero => simp at hu; subst hu; exact hcell.out
          | succ j => simp at hu
        case c3 => intro u hu; simp at hu; subst hu; rfl
        case c4 => unfold maxLen; omega
        case c5 => omega
        case c6 => exact Nat.le_trans hb.size (by simp)
        intro v' w4 hown2 hgr2 hnil2
        obtain ⟨pa2, ca2, rfl, ho2⟩ := own_more (d := (cy + x + y) % 65536) (by omega) hown2 ho.dig (by omega)
        have hb2 : Below w2.heap.size w2 w4 := by
          refine (hb.alloc hb.size _).grown hgr2 (Nat.le_trans hb.size (by simp)) (fun g hg => ?_)
          rcases ho.cases with ⟨rfl, _⟩ | ⟨g', rfl, h1, _⟩
          · simp [Value.ownBlock] at hg
          · simp [Value.ownBlock] at hg; omega
        have e1 : (cy + x + y) % 65536 = dg 65536 (X + Y) i := by rw [← HST.out.1]; congr 1; omega
        have e2 : (cy + x + y) / 65536 = cin 65536 X Y (i + 1) := by rw [← HST.out.2]; congr 1; omega
        have HO2 : Hid (os ++ [(cy + x + y) % 65536] = low 65536 (X + Y) (i + 1)) := by rw [Hid, low, ← HO.out, e1]
        have hul3 : (os ++ [(cy + x + y) % 65536]).length ≤ i + 1 := by simp; omega
        obtain ⟨us2, hus2⟩ : ∃ z, z = os ++ [(cy + x + y) % 65536] := ⟨_, rfl⟩
        rw [← hus2] at HO2 hul3 ho2 ⊢
        have HCY2 := Lib.hid e2
        have hcl := CL.out (i + 1)
        rw [← e2] at hcl
        clear hus2 hown2 hgr2 hnil2 hown hcell hb ho HO HCY e1 e2
        go_wp2_with fail
        go_roundw
        case rel => exact ⟨i + 1, (cy + x + y) / 65536, pa2, ca2, us2, rfl, by simp, by simp, by omega, hul3, hcl, HCY2, HO2, ho2, hb2⟩
        case measure => simp [intOf]; omega
      · rcases hr1.at' with h0 | ⟨b1, o1, rfl, hk1, hc1⟩
        · rw [h0] at g1; simp at g1
        have c1 : wo.cell? ⟨b1, o1 + i, none⟩ = some (.int .u64 (ds[i] : Nat)) := by rw [hb.cell (p := ⟨b1, o1 + i, none⟩) hk1]; exact hc1 i g1
        have wx := WX.out i g1
        have ex : ds[i]?.getD 0 = ds[i] := by simp [g1]
        rw [ex] at hst
        obtain ⟨x, hx⟩ : ∃ x, x = ds[i] := ⟨_, rfl⟩
        rw [← hx] at c1 wx hst
        clear ex hx hc1
        rw [show es[i]?.getD 0 = 0 by simp [g2]] at hst
        have HST := Lib.hid hst; clear hst hgo
        have hown := (ho.al (.cells #[.int .u64 (((cy : Int) + (x : Int)) % 65536)] 66)).row
        have hcell : Hid ((wo.alloc (.cells #[.int .u64 (((cy : Int) + (x : Int)) % 65536)] 66)).cell? ⟨wo.heap.size, 0, none⟩ = some (.int .u64 (((cy : Int) + (x : Int)) % 65536))) := (World.ownsRow_lit (e := 66) (base := 0) (size := 1) wo #[.int .u64 (((cy : Int) + (x : Int)) % 65536)] 1 (Nat.zero_le _) (by decide) (by simp)).cellAt 0 (by decide)
        go_wp2_with (at_builtin; refine wpList_append_own _ rfl _ _ 44 rfl w2.heap.size 66 i0 (.int .u64 0) 1 8 Tryz.underlying44 hi hz0 hz1 hz2 rfl (by decide) _ os.length (os.map enc) rfl hown ⟨wo.heap.size, 0, none⟩ 1 1 [.int .u64 (((cy : Int) + (x : Int)) % 65536)] rfl ?d1 ?d2 ?d3 ?d4 ?d5 ?d6 ?_)
        case d1 => rfl
        case d2 =>
          intro j u hu
          cases j with
          | zero => simp at hu; subst hu; exact hcell.out
          | succ j => simp at hu
        case d3 => intro u hu; simp at hu; subst hu; rfl
        case d4 => unfold maxLen; omega
        case d5 => omega
        case d6 => exact Nat.le_trans hb.size (by simp)
        intro v' w4 hown2 hgr2 hnil2
        obtain ⟨pa2, ca2, rfl, ho2⟩ := own_more (d := (cy + x) % 65536) (by omega) hown2 ho.dig (by omega)
        have hb2 : Below w2.heap.size w2 w4 := by
          refine (hb.alloc hb.size _).grown hgr2 (Nat.le_trans hb.size (by simp)) (fun g hg => ?_)
          rcases ho.cases with ⟨rfl, _⟩ | ⟨g', rfl, h1, _⟩
          · simp [Value.ownBlock] at hg
          · simp [Value.ownBlock] at hg; omega
        have e1 : (cy + x) % 65536 = dg 65536 (X + Y) i := by rw [← HST.out.1]; congr 1; omega
        have e2 : (cy + x) / 65536 = cin 65536 X Y (i + 1) := by rw [← HST.out.2]; congr 1; omega
        have HO2 : Hid (os ++ [(cy + x) % 65536] = low 65536 (X + Y) (i + 1)) := by rw [Hid, low, ← HO.out, e1]
        have hul3 : (os ++ [(cy + x) % 65536]).length ≤ i + 1 := by simp; omega
        obtain ⟨us2, hus2⟩ : ∃ z, z = os ++ [(cy + x) % 65536] := ⟨_, rfl⟩
        rw [← hus2] at HO2 hul3 ho2 ⊢
        have HCY2 := Lib.hid e2
        have hcl := CL.out (i + 1)
        rw [← e2] at hcl
        clear hus2 hown2 hgr2 hnil2 hown hcell hb ho HO HCY e1 e2
        go_wp2_with fail
        go_roundw
        case rel => exact ⟨i + 1, (cy + x) / 65536, pa2, ca2, us2, rfl, by simp, by simp, by omega, hul3, hcl, HCY2, HO2, ho2, hb2⟩
        case measure => simp [intOf]; omega
      · rw [show ds[i]?.getD 0 = 0 by simp [g1]] at hst
        rcases hr2.at' with h0 | ⟨b2, o2, rfl, hk2, hc2⟩
        · rw [h0] at g2; simp at g2
        have c2 : wo.cell? ⟨b2, o2 + i, none⟩ = some (.int .u64 (es[i] : Nat)) := by rw [hb.cell (p := ⟨b2, o2 + i, none⟩) hk2]; exact hc2 i g2
        have wy := WY.out i g2
        have ey : es[i]?.getD 0 = es[i] := by simp [g2]
        rw [ey] at hst
        obtain ⟨y, hy⟩ : ∃ y, y = es[i] := ⟨_, rfl⟩
        rw [← hy] at c2 wy hst
        clear ey hy hc2
        have HST := Lib.hid hst; clear hst hgo
        have hown := (ho.al (.cells #[.int .u64 (((cy : Int) + (y : Int)) % 65536)] 66)).row
        have hcell : Hid ((wo.alloc (.cells #[.int .u64 (((cy : Int) + (y : Int)) % 65536)] 66)).cell? ⟨wo.heap.size, 0, none⟩ = some (.int .u64 (((cy : Int) + (y : Int)) % 65536))) := (World.ownsRow_lit (e := 66) (base := 0) (size := 1) wo #[.int .u64 (((cy : Int) + (y : Int)) % 65536)] 1 (Nat.zero_le _) (by decide) (by simp)).cellAt 0 (by decide)
        go_wp2_with (at_builtin; refine wpList_append_own _ rfl _ _ 44 rfl w2.heap.size 66 i0 (.int .u64 0) 1 8 Tryz.underlying44 hi hz0 hz1 hz2 rfl (by decide) _ os.length (os.map enc) rfl hown ⟨wo.heap.size, 0, none⟩ 1 1 [.int .u64 (((cy : Int) + (y : Int)) % 65536)] rfl ?m1 ?m2 ?m3 ?m4 ?m5 ?m6 ?_)
        case m1 => rfl
        case m2 =>
          intro j u hu
          cases j with
          | zero => simp at hu; subst hu; exact hcell.out
          | succ j => simp at hu
        case m3 => intro u hu; simp at hu; subst hu; rfl
        case m4 => unfold maxLen; omega
        case m5 => omega
        case m6 => exact Nat.le_trans hb.size (by simp)
        intro v' w4 hown2 hgr2 hnil2
        obtain ⟨pa2, ca2, rfl, ho2⟩ := own_more (d := (cy + y) % 65536) (by omega) hown2 ho.dig (by omega)
        have hb2 : Below w2.heap.size w2 w4 := by
          refine (hb.alloc hb.size _).grown hgr2 (Nat.le_trans hb.size (by simp)) (fun g hg => ?_)
          rcases ho.cases with ⟨rfl, _⟩ | ⟨g', rfl, h1, _⟩
          · simp [Value.ownBlock] at hg
          · simp [Value.ownBlock] at hg; omega
        have e1 : (cy + y) % 65536 = dg 65536 (X + Y) i := by rw [← HST.out.1]; congr 1; omega
        have e2 : (cy + y) / 65536 = cin 65536 X Y (i + 1) := by rw [← HST.out.2]; congr 1; omega
        have HO2 : Hid (os ++ [(cy + y) % 65536] = low 65536 (X + Y) (i + 1)) := by rw [Hid, low, ← HO.out, e1]
        have hul3 : (os ++ [(cy + y) % 65536]).length ≤ i + 1 := by simp; omega
        obtain ⟨us2, hus2⟩ : ∃ z, z = os ++ [(cy + y) % 65536] := ⟨_, rfl⟩
        rw [← hus2] at HO2 hul3 ho2 ⊢
        have HCY2 := Lib.hid e2
        have hcl := CL.out (i + 1)
        rw [← e2] at hcl
        clear hus2 hown2 hgr2 hnil2 hown hcell hb ho HO HCY e1 e2
        go_wp2_with fail
        go_roundw
        case rel => exact ⟨i + 1, (cy + y) / 65536, pa2, ca2, us2, rfl, by simp, by simp, by omega, hul3, hcl, HCY2, HO2, ho2, hb2⟩
        case measure => simp [intOf]; omega
      · rw [show ds[i]?.getD 0 = 0 by simp [g1]] at hst
        rw [show es[i]?.getD 0 = 0 by simp [g2]] at hst
        have hcy1 : 0 < cy := by omega
        have HST := Lib.hid hst; clear hst hgo
        have hown := (ho.al (.cells #[.int .u64 (((cy : Int)) % 65536)] 66)).row
        have hcell : Hid ((wo.alloc (.cells #[.int .u64 (((cy : Int)) % 65536)] 66)).cell? ⟨wo.heap.size, 0, none⟩ = some (.int .u64 (((cy : Int)) % 65536))) := (World.ownsRow_lit (e := 66) (base := 0) (size := 1) wo #[.int .u64 (((cy : Int)) % 65536)] 1 (Nat.zero_le _) (by decide) (by simp)).cellAt 0 (by decide)
        go_wp2_with (at_builtin; refine wpList_append_own _ rfl _ _ 44 rfl w2.heap.size 66 i0 (.int .u64 0) 1 8 Tryz.underlying44 hi hz0 hz1 hz2 rfl (by decide) _ os.length (os.map enc) rfl hown ⟨wo.heap.size, 0, none⟩ 1 1 [.int .u64 (((cy : Int)) % 65536)] rfl ?n1 ?n2 ?n3 ?n4 ?n5 ?n6 ?_)
        case n1 => rfl
        case n2 =>
          intro j u hu
          cases j with
          | zero => simp at hu; subst hu; exact hcell.out
          | succ j => simp at hu
        case n3 => intro u hu; simp at hu; subst hu; rfl
        case n4 => unfold maxLen; omega
        case n5 => omega
        case n6 => exact Nat.le_trans hb.size (by simp)
        intro v' w4 hown2 hgr2 hnil2
        obtain ⟨pa2, ca2, rfl, ho2⟩ := own_more (d := (cy) % 65536) (by omega) hown2 ho.dig (by omega)
        have hb2 : Below w2.heap.size w2 w4 := by
          refine (hb.alloc hb.size _).grown hgr2 (Nat.le_trans hb.size (by simp)) (fun g hg => ?_)
          rcases ho.cases with ⟨rfl, _⟩ | ⟨g', rfl, h1, _⟩
          · simp [Value.ownBlock] at hg
          · simp [Value.ownBlock] at hg; omega
        have e1 : (cy) % 65536 = dg 65536 (X + Y) i := by rw [← HST.out.1]; congr 1; omega
        have e2 : (cy) / 65536 = cin 65536 X Y (i + 1) := by rw [← HST.out.2]; congr 1; omega
        have HO2 : Hid (os ++ [(cy) % 65536] = low 65536 (X + Y) (i + 1)) := by rw [Hid, low, ← HO.out, e1]
        have hul3 : (os ++ [(cy) % 65536]).length ≤ i + 1 := by simp; omega
        obtain ⟨us2, hus2⟩ : ∃ z, z = os ++ [(cy) % 65536] := ⟨_, rfl⟩
        rw [← hus2] at HO2 hul3 ho2 ⊢
        have HCY2 := Lib.hid e2
        have hcl := CL.out (i + 1)
        rw [← e2] at hcl
        clear hus2 hown2 hgr2 hnil2 hown hcell hb ho HO HCY e1 e2
        go_wp2_with fail
        go_roundw
        case rel => exact ⟨i + 1, (cy) / 65536, pa2, ca2, us2, rfl, by simp, by simp, by omega, hul3, hcl, HCY2, HO2, ho2, hb2⟩
        case measure => simp [intOf]; omega
end Go.Proofs.RN
/- The document's Sub of layer 2. -/
namespace Go.Proofs.RN
open Go.RowKit
open Go.Proofs
open Go.Proofs.NP
open Go.Proofs.SL
set_option linter.unusedVariables false
set_option maxRecDepth 20000
set_option linter.unusedSimpArgs false
variable {w : World} {a b : Option Addr} {ca cb l k : Nat} {xs ys zs : List Nat}

theorem sub_no (hx : Rd w a ca xs) (hy : Rd w b cb ys) (lx : xs.length = l) (ly : ys.length = k) (h : l ≤ 100000) (h' : k ≤ 100000) (hlt : V xs < V ys) :
    Calls Tryz.prog 62 #[.slice a l ca, .slice b k cb] w fun e w' => e = .returned (.tuple #[.slice none 0 0, .int .i64 8]) ∧ Kp w w' := by
  have HC := Lib.hid (cmp hx hy lx ly h h' (-1) (by rw [NT.cmpI, if_pos hlt]))
  clear hx hy lx ly hlt
  go_enter Tryz.func62, Tryz.ntmps62
  go_wp2_with fail
  refine HC.out.mono ?_
  rintro e w1 ⟨rfl, hb⟩
  have hf := Lib.hid hb
  clear hb
  go_wp2_with fail
  go_ret2
  exact ⟨rfl, hf.out⟩

set_option maxHeartbeats 4000000 in
theorem sub_ok (hx : Rd w a ca xs) (hy : Rd w b cb ys) (lx : xs.length = l) (ly : ys.length = k) (h : l ≤ 100000) (h' : k ≤ 100000) (hz : zs = L (V xs - V ys)) (hle : V ys ≤ V xs) :
    Calls Tryz.prog 62 #[.slice a l ca, .slice b k cb] w (NR.GivesE 66 w zs) := by
  obtain ⟨i0, hi, hz0, hz1, hz2⟩ := info_parts NT.Tryz.info66
  obtain ⟨z, hzc, hz0'⟩ : ∃ z : Int, z = NT.cmpI (V xs) (V ys) ∧ 0 ≤ z := ⟨_, rfl, by unfold NT.cmpI; rw [if_neg (by omega)]; split <;> omega⟩
  have HCM := Lib.hid (cmp hx hy lx ly h h' z hzc)
  obtain ⟨X, hX⟩ : ∃ X, X = V xs := ⟨_, rfl⟩
  obtain ⟨Y, hY⟩ : ∃ Y, Y = V ys := ⟨_, rfl⟩
  obtain ⟨ds, hds⟩ : ∃ ds, ds = D X := ⟨_, rfl⟩
  obtain ⟨es, hes⟩ : ∃ es, es = D Y := ⟨_, rfl⟩
  have hdl : ds.length ≤ 400000 := by have := D_len hx.ws; rw [hds, hX]; omega
  have hel : es.length ≤ 400000 := by have := D_len hy.ws; rw [hes, hY]; omega
  rw [← hX, ← hY] at hz hle
  have DX := Lib.hid (show ∀ i : Nat, ds[i]?.getD 0 = dg 65536 X i from fun i => by rw [hds]; exact Ddg _ i)
  have DY := Lib.hid (show ∀ i : Nat, es[i]?.getD 0 = dg 65536 Y i from fun i => by rw [hes]; exact Ddg _ i)
  have ST := Lib.hid (fun i => sub_step 65536 X Y i (by decide) hle)
  have B0 := Lib.hid (bin_zero 65536 X Y)
  have BL := Lib.hid (fun i => bin_le 65536 X Y i)
  have SE := Lib.hid (show val 65536 (low 65536 (X - Y) ds.length) = X - Y by rw [hds]; exact sub_end X Y)
  have HZ := Lib.hid hz
  have HC := Lib.hid (fun (w1 : World) (hx : Rd w1 a ca xs) => digits' hx lx h (hds.trans (by rw [hX])))
  have HD := Lib.hid (fun (w1 : World) (hy : Rd w1 b cb ys) => digits' hy ly h' (hes.trans (by rw [hY])))
  have HX := Lib.hid hx
  have HY := Lib.hid hy
  clear hz hds hes hx hy lx ly hX hY hzc hle
  go_enter Tryz.func62, Tryz.ntmps62
  go_wp2_with fail
  refine HCM.out.mono ?_
  rintro e w0 ⟨rfl, hb0⟩
  have HX1 := HX.out.nx hb0
  have HY1 := HY.out.nx hb0
  have HB0 := Lib.hid hb0
  clear HCM HX HY hb0
  go_wp2_with fail
  refine (HC.out w0 HX1).mono ?_
  rintro e w1 ⟨p, c, rfl, ho, hb⟩
  have hr := ho.rd
  have HY2 := HY1.nx hb
  clear HC HY1 HX1 ho
  go_wp2_with fail
  refine (HD.out w1 HY2).mono ?_
  rintro e w2 ⟨q, d, rfl, ho2, hb2⟩
  have hr2 := ho2.rd
  have hr1 := hr.nx hb2
  have hkp : Hid (Kp w w2) := Kp.nx HB0.out (Kp.nx hb hb2)
  have WX := Lib.hid (show ∀ i (h : i < ds.length), ds[i] < 65536 from fun i h => by have := DX.out i; simp [h] at this; rw [this]; exact dg_lt _ _ _ (by decide))
  have WY := Lib.hid (show ∀ i (h : i < es.length), es[i] < 65536 from fun i h => by have := DY.out i; simp [h] at this; rw [this]; exact dg_lt _ _ _ (by decide))
  clear HD HY2 hr ho2 hb hb2 HB0
  go_wp2_with fail
  go_loopw [8, 9, 10] (fun s7 s8 s9 wr => ∃ (i cy : Nat) (pa : Option Addr) (cc : Nat) (os : List Nat), s7 = .slice pa os.length cc ∧ s8 = .int .u64 cy ∧ s9 = .int .i64 i ∧ i ≤ ds.length ∧ os.length ≤ i ∧ cy ≤ 1 ∧ Hid (cy = bin 65536 X Y i) ∧ Hid (os = low 65536 (X - Y) i) ∧ Own 66 w2.heap.size wr pa cc os ∧ Below w2.heap.size w2 wr) (fun _ _ s _ => ds.length - (intOf s).toNat)
  case atStart => exact ⟨0, 0, none, 0, [], rfl, rfl, rfl, by omega, by simp, by omega, B0.out.symm, rfl, ⟨Dig.nil _, World.ownsRow_nil w2 _ _ _⟩, Below.refl _ _⟩
  case round =>
    obtain ⟨i, cy, pa, cc, os, rfl, rfl, rfl, hi', hol, hcy, HCY, HO, ho, hb⟩ := hrel
    rcases Nat.lt_or_ge i ds.length with g1 | g1
    rotate_left
    · have hil : i = ds.length := by omega
      have hdo : Dig 65536 os := by rw [HO.out]; exact low_dig _ _ _ (by decide)
      have hol2 : os.length ≤ 1000000 := by omega
      have HJ := Lib.hid (join' (zs := zs) ho.rd hdo rfl hol2 (by rw [HZ.out]; congr 1; show _ = val 65536 os; rw [HO.out, hil]; exact SE.out.symm))
      have hbb := Lib.hid (Kp.nx hkp.out hb)
      clear hil hdo ho hb HCY HO
      go_wp2_with fail
      refine HJ.out.mono ?_
      rintro e w3 ⟨q3, d3, rfl, ho3, hb3⟩
      have hf := Lib.hid (show NR.GivesE 66 w zs (.returned (.tuple #[.slice q3 zs.length d3, .int .i64 0])) w3 from ⟨q3, d3, rfl, ho3.mono hbb.out.size, hbb.out.trans (hb3.mono hbb.out.size)⟩)
      clear HJ ho3 hb3
      go_wp2
      go_ret2
      exact hf.out
    · have hst := ST.out i
      rw [← HCY.out, ← DX.out, ← DY.out] at hst
      obtain ⟨wo, rfl⟩ : ∃ wo : World, wo = wr := ⟨_, rfl⟩
      rcases hr1.at' with h0 | ⟨b1, o1, rfl, hk1, hc1⟩
      · rw [h0] at g1; simp at g1
      have c1 : wo.cell? ⟨b1, o1 + i, none⟩ = some (.int .u64 (ds[i] : Nat)) := by rw [hb.cell (p := ⟨b1, o1 + i, none⟩) hk1]; exact hc1 i g1
      have wx := WX.out i g1
      have ex : ds[i]?.getD 0 = ds[i] := by simp [g1]
      rw [ex] at hst
      obtain ⟨x, hx⟩ : ∃ x, x = ds[i] := ⟨_, rfl⟩
      rw [← hx] at c1 wx hst
      clear ex hx hc1
      rcases Nat.lt_or_ge i es.length with g2 | g2
      · rcases hr2.at' with h0 | ⟨b2, o2, rfl, hk2, hc2⟩
        · rw [h0] at g2; simp at g2
        have c2 : wo.cell? ⟨b2, o2 + i, none⟩ = some (.int .u64 (es[i] : Nat)) := by rw [hb.cell (p := ⟨b2, o2 + i, none⟩) hk2]; exact hc2 i g2
        have wy := WY.out i g2
        have ey : es[i]?.getD 0 = es[i] := by simp [g2]
        rw [ey] at hst
        obtain ⟨y, hy⟩ : ∃ y, y = es[i] := ⟨_, rfl⟩
        rw [← hy] at c2 wy hst
        clear ey hy hc2
        by_cases hlt : x < cy + y
        · have HST := Lib.hid hst; clear hst
          have hown := (ho.al (.cells #[.int .u64 ((x : Int) + 65536 - ((cy : Int) + (y : Int)))] 66)).row
          have hcell : Hid ((wo.alloc (.cells #[.int .u64 ((x : Int) + 65536 - ((cy : Int) + (y : Int)))] 66)).cell? ⟨wo.heap.size, 0, none⟩ = some (.int .u64 ((x : Int) + 65536 - ((cy : Int) + (y : Int))))) := (World.ownsRow_lit (e := 66) (base := 0) (size := 1) wo #[.int .u64 ((x : Int) + 65536 - ((cy : Int) + (y : Int)))] 1 (Nat.zero_le _) (by decide) (by simp)).cellAt 0 (by decide)
          go_wp2_with (at_builtin; refine wpList_append_own _ rfl _ _ 44 rfl w2.heap.size 66 i0 (.int .u64 0) 1 8 Tryz.underlying44 hi hz0 hz1 hz2 rfl (by decide) _ os.length (os.map enc) rfl hown ⟨wo.heap.size, 0, none⟩ 1 1 [.int .u64 ((x : Int) + 65536 - ((cy : Int) + (y : Int)))] rfl ?c1 ?c2 ?c3 ?c4 ?c5 ?c6 ?_)
          case c1 => rfl
          case c2 =>
            intro j u hu
            cases j with
            | zero => simp at hu; subst hu; exact hcell.out
            | succ j => simp at hu
          case c3 => intro u hu; simp at hu; subst hu; rfl
          case c4 => unfold maxLen; omega
          case c5 => omega
          case c6 => exact Nat.le_trans hb.size (by simp)
          intro v' w4 hown2 hgr2 hnil2
          obtain ⟨pa2, ca2, rfl, ho2⟩ := own_more (d := (x + 65536 - (cy + y))) (by omega) hown2 ho.dig (by omega)
          have hb2 : Below w2.heap.size w2 w4 := by
            refine (hb.alloc hb.size _).grown hgr2 (Nat.le_trans hb.size (by simp)) (fun g hg => ?_)
            rcases ho.cases with ⟨rfl, _⟩ | ⟨g', rfl, h1, _⟩
            · simp [Value.ownBlock] at hg
            · simp [Value.ownBlock] at hg; omega
          have e1 : (x + 65536 - (cy + y)) = dg 65536 (X - Y) i := by rw [← HST.out.1]; omega
          have e2 : 1 = bin 65536 X Y (i + 1) := by rw [← HST.out.2, if_pos (by omega)]
          have HO2 : Hid (os ++ [(x + 65536 - (cy + y))] = low 65536 (X - Y) (i + 1)) := by rw [Hid, low, ← HO.out, e1]
          have hul3 : (os ++ [(x + 65536 - (cy + y))]).length ≤ i + 1 := by simp; omega
          obtain ⟨us2, hus2⟩ : ∃ z, z = os ++ [(x + 65536 - (cy + y))] := ⟨_, rfl⟩
          rw [← hus2] at HO2 hul3 ho2 ⊢
          have HCY2 := Lib.hid e2
          clear hus2 hown2 hgr2 hnil2 hown hcell hb ho HO HCY e1 e2
          go_wp2_with fail
          go_roundw
          case rel => exact ⟨i + 1, 1, pa2, ca2, us2, rfl, by simp, by simp, by omega, hul3, by omega, HCY2, HO2, ho2, hb2⟩
          case measure => simp [intOf]; omega
        · have HST := Lib.hid hst; clear hst
          have hown := (ho.al (.cells #[.int .u64 ((x : Int) - ((cy : Int) + (y : Int)))] 66)).row
          have hcell : Hid ((wo.alloc (.cells #[.int .u64 ((x : Int) - ((cy : Int) + (y : Int)))] 66)).cell? ⟨wo.heap.size, 0, none⟩ = some (.int .u64 ((x : Int) - ((cy : Int) + (y : Int))))) := (World.ownsRow_lit (e := 66) (base := 0) (size := 1) wo #[.int .u64 ((x : Int) - ((cy : Int) + (y : Int)))] 1 (Nat.zero_le _) (by decide) (by simp)).cellAt 0 (by decide)
          go_wp2_with (at_builtin; refine wpList_append_own _ rfl _ _ 44 rfl w2.heap.size 66 i0 (.int .u64 0) 1 8 Tryz.underlying44 hi hz0 hz1 hz2 rfl (by decide) _ os.length (os.map enc) rfl hown ⟨wo.heap.size, 0, none⟩ 1 1 [.int .u64 ((x : Int) - ((cy : Int) + (y : Int)))] rfl ?d1 ?d2 ?d3 ?d4 ?d5 ?d6 ?_)
          case d1 => rfl
          case d2 =>
            intro j u hu
            cases j with
            | zero => simp at hu; subst hu; exact hcell.out
            | succ j => simp at hu
          case d3 => intro u hu; simp at hu; subst hu; rfl
          case d4 => unfold maxLen; omega
          case d5 => omega
          case d6 => exact Nat.le_trans hb.size (by simp)
          intro v' w4 hown2 hgr2 hnil2
          obtain ⟨pa2, ca2, rfl, ho2⟩ := own_more (d := (x - (cy + y))) (by omega) hown2 ho.dig (by omega)
          have hb2 : Below w2.heap.size w2 w4 := by
            refine (hb.alloc hb.size _).grown hgr2 (Nat.le_trans hb.size (by simp)) (fun g hg => ?_)
            rcases ho.cases with ⟨rfl, _⟩ | ⟨g', rfl, h1, _⟩
            · simp [Value.ownBlock] at hg
            · simp [Value.ownBlock] at hg; omega
          have e1 : (x - (cy + y)) = dg 65536 (X - Y) i := by rw [← HST.out.1]; omega
          have e2 : 0 = bin 65536 X Y (i + 1) := by rw [← HST.out.2, if_neg (by omega)]
          have HO2 : Hid (os ++ [(x - (cy + y))] = low 65536 (X - Y) (i + 1)) := by rw [Hid, low, ← HO.out, e1]
          have hul3 : (os ++ [(x - (cy + y))]).length ≤ i + 1 := by simp; omega
          obtain ⟨us2, hus2⟩ : ∃ z, z = os ++ [(x - (cy + y))] := ⟨_, rfl⟩
          rw [← hus2] at HO2 hul3 ho2 ⊢
          have HCY2 := Lib.hid e2
          clear hus2 hown2 hgr2 hnil2 hown hcell hb ho HO HCY e1 e2
          go_wp2_with fail
          go_roundw
          case rel => exact ⟨i + 1, 0, pa2, ca2, us2, rfl, by simp, by simp, by omega, hul3, by omega, HCY2, HO2, ho2, hb2⟩
          case measure => simp [intOf]; omega
      · rw [show es[i]?.getD 0 = 0 by simp [g2]] at hst
        by_cases hlt : x < cy
        · have HST := Lib.hid hst; clear hst
          have hown := (ho.al (.cells #[.int .u64 ((x : Int) + 65536 - (cy : Int))] 66)).row
          have hcell : Hid ((wo.alloc (.cells #[.int .u64 ((x : Int) + 65536 - (cy : Int))] 66)).cell? ⟨wo.heap.size, 0, none⟩ = some (.int .u64 ((x : Int) + 65536 - (cy : Int)))) := (World.ownsRow_lit (e := 66) (base := 0) (size := 1) wo #[.int .u64 ((x : Int) + 65536 - (cy : Int))] 1 (Nat.zero_le _) (by decide) (by simp)).cellAt 0 (by decide)
          go_wp2_with (at_builtin; refine wpList_append_own _ rfl _ _ 44 rfl w2.heap.size 66 i0 (.int .u64 0) 1 8 Tryz.underlying44 hi hz0 hz1 hz2 rfl (by decide) _ os.length (os.map enc) rfl hown ⟨wo.heap.size, 0, none⟩ 1 1 [.int .u64 ((x : Int) + 65536 - (cy : Int))] rfl ?m1 ?m2 ?m3 ?m4 ?m5 ?m6 ?_)
          case m1 => rfl
          case m2 =>
            intro j u hu
            cases j with
            | zero => simp at hu; subst hu; exact hcell.out
            | succ j => simp at hu
          case m3 => intro u hu; simp at hu; subst hu; rfl
          case m4 => unfold maxLen; omega
          case m5 => omega
          case m6 => exact Nat.le_trans hb.size (by simp)
          intro v' w4 hown2 hgr2 hnil2
          obtain ⟨pa2, ca2, rfl, ho2⟩ := own_more (d := (x + 65536 - (cy))) (by omega) hown2 ho.dig (by omega)
          have hb2 : Below w2.heap.size w2 w4 := by
            refine (hb.alloc hb.size _).grown hgr2 (Nat.le_trans hb.size (by simp)) (fun g hg => ?_)
            rcases ho.cases with ⟨rfl, _⟩ | ⟨g', rfl, h1, _⟩
            · simp [Value.ownBlock] at hg
            · simp [Value.ownBlock] at hg; omega
          have e1 : (x + 65536 - (cy)) = dg 65536 (X - Y) i := by rw [← HST.out.1]; omega
          have e2 : 1 = bin 65536 X Y (i + 1) := by rw [← HST.out.2, if_pos (by omega)]
          have HO2 : Hid (os ++ [(x + 65536 - (cy))] = low 65536 (X - Y) (i + 1)) := by rw [Hid, low, ← HO.out, e1]
          have hul3 : (os ++ [(x + 65536 - (cy))]).length ≤ i + 1 := by simp; omega
          obtain ⟨us2, hus2⟩ : ∃ z, z = os ++ [(x + 65536 - (cy))] := ⟨_, rfl⟩
          rw [← hus2] at HO2 hul3 ho2 ⊢
          have HCY2 := Lib.hid e2
          clear hus2 hown2 hgr2 hnil2 hown hcell hb ho HO HCY e1 e2
          go_wp2_with fail
          go_roundw
          case rel => exact ⟨i + 1, 1, pa2, ca2, us2, rfl, by simp, by simp, by omega, hul3, by omega, HCY2, HO2, ho2, hb2⟩
          case measure => simp [intOf]; omega
        · have HST := Lib.hid hst; clear hst
          have hown := (ho.al (.cells #[.int .u64 ((x : Int) - (cy : Int))] 66)).row
          have hcell : Hid ((wo.alloc (.cells #[.int .u64 ((x : Int) - (cy : Int))] 66)).cell? ⟨wo.heap.size, 0, none⟩ = some (.int .u64 ((x : Int) - (cy : Int)))) := (World.ownsRow_lit (e := 66) (base := 0) (size := 1) wo #[.int .u64 ((x : Int) - (cy : Int))] 1 (Nat.zero_le _) (by decide) (by simp)).cellAt 0 (by decide)
          go_wp2_with (at_builtin; refine wpList_append_own _ rfl _ _ 44 rfl w2.heap.size 66 i0 (.int .u64 0) 1 8 Tryz.underlying44 hi hz0 hz1 hz2 rfl (by decide) _ os.length (os.map enc) rfl hown ⟨wo.heap.size, 0, none⟩ 1 1 [.int .u64 ((x : Int) - (cy : Int))] rfl ?n1 ?n2 ?n3 ?n4 ?n5 ?n6 ?_)
          case n1 => rfl
          case n2 =>
            intro j u hu
            cases j with
            | zero => simp at hu; subst hu; exact hcell.out
            | succ j => simp at hu
          case n3 => intro u hu; simp at hu; subst hu; rfl
          case n4 => unfold maxLen; omega
          case n5 => omega
          case n6 => exact Nat.le_trans hb.size (by simp)
          intro v' w4 hown2 hgr2 hnil2
          obtain ⟨pa2, ca2, rfl, ho2⟩ := own_more (d := (x - (cy))) (by omega) hown2 ho.dig (by omega)
          have hb2 : Below w2.heap.size w2 w4 := by
            refine (hb.alloc hb.size _).grown hgr2 (Nat.le_trans hb.size (by simp)) (fun g hg => ?_)
            rcases ho.cases with ⟨rfl, _⟩ | ⟨g', rfl, h1, _⟩
            · simp [Value.ownBlock] at hg
            · simp [Value.ownBlock] at hg; omega
          have e1 : (x - (cy)) = dg 65536 (X - Y) i := by rw [← HST.out.1]; omega
          have e2 : 0 = bin 65536 X Y (i + 1) := by rw [← HST.out.2, if_neg (by omega)]
          have HO2 : Hid (os ++ [(x - (cy))] = low 65536 (X - Y) (i + 1)) := by rw [Hid, low, ← HO.out, e1]
          have hul3 : (os ++ [(x - (cy))]).length ≤ i + 1 := by simp; omega
          obtain ⟨us2, hus2⟩ : ∃ z, z = os ++ [(x - (cy))] := ⟨_, rfl⟩
          rw [← hus2] at HO2 hul3 ho2 ⊢
          have HCY2 := Lib.hid e2
          clear hus2 hown2 hgr2 hnil2 hown hcell hb ho HO HCY e1 e2
          go_wp2_with fail
          go_roundw
          case rel => exact ⟨i + 1, 0, pa2, ca2, us2, rfl, by simp, by simp, by omega, hul3, by omega, HCY2, HO2, ho2, hb2⟩
          case measure => simp [intOf]; omega
end Go.Proofs.RN
/- The document's Mul of layer 2: a product digit by digit. -/
namespace Go.Proofs.RN
open Go.RowKit
open Go.Proofs
open Go.Proofs.NP
open Go.Proofs.SL
set_option linter.unusedVariables false
set_option maxRecDepth 20000
set_option linter.unusedSimpArgs false

/-- between the rows of a product -/
structure DAt (w wr : World) (g N : Nat) (ds es os : List Nat) (i : Nat) : Prop where
  len : os.length = N
  own : Own 66 w.heap.size wr (some ⟨g, 0, none⟩) N os
  rows : NP.Rows 65536 os (ds ++ [0]) es i
  bel : Below w.heap.size w wr

/-- inside a row -/
structure DIn (w wr : World) (g N : Nat) (es os os' : List Nat) (x i k over : Nat) : Prop where
  len : os'.length = N
  own : Own 66 w.heap.size wr (some ⟨g, 0, none⟩) N os'
  row : NP.Row 65536 os os' x es i k over
  bel : Below w.heap.size w wr

theorem DAt.dr {w wr : World} {g N : Nat} {ds es os : List Nat} {i : Nat} (E : DAt w wr g N ds es os i) (n : Nat) : DAt w (wr.drewN n) g N ds es os i :=
  ⟨E.len, E.own.dr n, E.rows, below_drewN E.bel n⟩
theorem DIn.dr {w wr : World} {g N : Nat} {es os os' : List Nat} {x i k over : Nat} (R : DIn w wr g N es os os' x i k over) (n : Nat) : DIn w (wr.drewN n) g N es os os' x i k over :=
  ⟨R.len, R.own.dr n, R.row, below_drewN R.bel n⟩

theorem DIn.next {w wr : World} {g N : Nat} {es os os' : List Nat} {x i k over : Nat} (R : DIn w wr g N es os os' x i k over) (hx : x < 65536) (hys : Dig 65536 es) (hk : k < es.length) (hl : i + k < os.length) (D : Int) (v : Nat)
    (hv : v = (x * es[k] + over + os'[i + k]?.getD 0) / 65536) (hD : D = ((x * es[k] + over + os'[i + k]?.getD 0) % 65536 : Nat)) :
    ∃ os'', DIn w (wr.setCell ⟨g, i + k, none⟩ (.int .u64 D)) g N es os os'' x i (k + 1) v := by
  subst hv; subst hD
  have o2 := R.own.store (i + k) ((x * es[k] + over + os'[i + k]?.getD 0) % 65536) (Nat.lt_trans (Nat.mod_lt _ (by decide)) (by decide))
  have hg := R.own.ge.1
  refine ⟨_, ⟨by rw [List.length_set]; exact R.len, o2.1, R.row.next (by decide) hx hys hk hl, R.bel.setCell (p := ⟨g, i + k, none⟩) hg _⟩⟩

theorem snoc_get (ds : List Nat) (i : Nat) (h : i < ds.length) (h' : i < (ds ++ [0]).length) : (ds ++ [0])[i] = ds[i] := by simp [h]
theorem Dig.snoc {ds : List Nat} (h : Dig 65536 ds) : Dig 65536 (ds ++ [0]) := h.append (fun x hx => by simp at hx; omega)

/-- what stands behind a row is 0 -/
theorem DIn.zero {w wr : World} {g N : Nat} {ds es os os' : List Nat} {x i over : Nat} (hi : i < ds.length) (A : NP.Rows 65536 os (ds ++ [0]) es i) (hd : Dig 65536 ds) (he : Dig 65536 es) (R : DIn w wr g N es os os' x i es.length over) : os'[i + es.length]?.getD 0 = 0 := by
  rw [R.row.tail _ (Nat.le_refl _)]
  exact A.zero (by decide) (Dig.snoc hd) he (by simp; omega)

theorem DIn.done {w wr : World} {g N : Nat} {ds es os os' : List Nat} {i over : Nat} (hi : i < ds.length) (A : NP.Rows 65536 os (ds ++ [0]) es i) (hd : Dig 65536 ds) (he : Dig 65536 es) (R : DIn w wr g N es os os' ds[i] i es.length over) (D : Int) (hD : D = (over : Nat)) :
    ∃ os'', DAt w (wr.setCell ⟨g, i + es.length, none⟩ (.int .u64 D)) g N ds es os'' (i + 1) := by
  subst hD
  have o2 := R.own.store (i + es.length) over (Nat.lt_trans R.row.ov (by decide))
  have hg := R.own.ge.1
  have hr := R.row
  rw [← snoc_get ds i hi (by simp; omega)] at hr
  exact ⟨_, ⟨by rw [List.length_set]; exact R.len, o2.1, A.next (by decide) (Dig.snoc hd) he (by simp; omega) hr, R.bel.setCell (p := ⟨g, i + es.length, none⟩) hg _⟩⟩

theorem DIn.done0 {w wr : World} {g N : Nat} {ds es os os' : List Nat} {i : Nat} (hi : i < ds.length) (A : NP.Rows 65536 os (ds ++ [0]) es i) (hd : Dig 65536 ds) (he : Dig 65536 es) (R : DIn w wr g N es os os' ds[i] i es.length 0) :
    DAt w wr g N ds es os' (i + 1) := by
  have h0 := R.zero hi A hd he
  have hr := R.row
  rw [← snoc_get ds i hi (by simp; omega)] at hr
  have hn := A.next (by decide) (Dig.snoc hd) he (by simp; omega) hr
  have e : os'.set (i + es.length) 0 = os' := by
    apply List.ext_getElem?
    intro j
    rw [List.getElem?_set]
    split
    · rename_i h; subst h
      split
      · rename_i h2; simp [h2] at h0; simp [h2, h0]
      · rename_i h2; simp [h2]
    · rfl
  rw [e] at hn
  exact ⟨R.len, R.own, hn, R.bel⟩

theorem DAt.fin {w wr : World} {g N : Nat} {ds es os : List Nat} (E : DAt w wr g N ds es os ds.length) : U os = U ds * U es := by
  have := E.rows.v
  rw [List.take_left'  rfl] at this
  exact this

variable {w : World} {a b : Option Addr} {ca cb l k : Nat} {xs ys zs : List Nat}

set_option maxHeartbeats 4000000 in
theorem mul (hx : Rd w a ca xs) (hy : Rd w b cb ys) (lx : xs.length = l) (ly : ys.length = k) (h : l ≤ 50000) (h' : k ≤ 50000) (hz : zs = L (V xs * V ys)) :
    Calls Tryz.prog 82 #[.slice a l ca, .slice b k cb] w (Gives 66 w zs) := by
  obtain ⟨i0, hi, hz0, hz1, hz2⟩ := info_parts NT.Tryz.info66
  obtain ⟨ds, hds⟩ : ∃ ds, ds = D (V xs) := ⟨_, rfl⟩
  obtain ⟨es, hes⟩ : ∃ es, es = D (V ys) := ⟨_, rfl⟩
  have hdl : ds.length ≤ 200000 := by have := D_len hx.ws; rw [hds]; omega
  have hel : es.length ≤ 200000 := by have := D_len hy.ws; rw [hes]; omega
  have HD1 := Lib.hid (show Dig 65536 ds by rw [hds]; exact Dd _)
  have HE1 := Lib.hid (show Dig 65536 es by rw [hes]; exact Dd _)
  have HZ := Lib.hid (show zs = L (U ds * U es) by rw [hds, hes, UD, UD]; exact hz)
  have HC := Lib.hid (digits' hx lx (by omega) hds)
  have HD := Lib.hid (fun (w1 : World) (hy : Rd w1 b cb ys) => digits' hy ly (by omega) hes)
  have HY := Lib.hid hy
  clear hz hds hes hx hy lx ly
  go_enter Tryz.func82, Tryz.ntmps82
  go_wp2_with fail
  refine HC.out.mono ?_
  rintro e w1 ⟨p, c, rfl, ho, hb⟩
  have hr := ho.rd
  have HY2 := HY.out.nx hb
  clear HC HY ho
  go_wp2_with fail
  refine (HD.out w1 HY2).mono ?_
  rintro e w2 ⟨q, d, rfl, ho2, hb2⟩
  have hr2 := ho2.rd
  have hr1 := hr.nx hb2
  have hkp : Hid (Kp w w2) := Kp.nx hb hb2
  clear HD HY2 hr ho2 hb hb2
  obtain ⟨wm, hmk, hown0, hgr0⟩ := run_make_full (P := Tryz.prog) w2 w2.heap.size 44 66 i0 (.int .u64 0) 1 Tryz.underlying44 hi hz0 hz1 .i64 .i64 (ds.length + es.length + 1) (by rw [hz2]; omega) (by unfold maxLen; omega) (Nat.le_refl _)
  rw [Nat.mul_one, show (Value.int .u64 0).cells = #[Value.int .u64 0] from rfl, toList_madeCells_one] at hown0
  rw [show (((ds.length + es.length + 1 : Nat)) : Int) = (ds.length : Int) + (es.length : Int) + 1 by omega] at hmk
  have E0 : DAt w2 wm w2.heap.size (ds.length + es.length + 1) ds es (List.replicate (ds.length + es.length + 1) 0) 0 :=
    ⟨by simp, ⟨Dig.zeros (by decide) _, by simpa [enc] using hown0⟩, ⟨by simp; omega, Dig.zeros (by decide) _, by simp [val_zeros, val]⟩, (Below.refl _ _).grown hgr0 (Nat.le_refl _) (fun k hk => by cases hk)⟩
  clear hown0 hgr0
  have hEq := Lib.hid hmk
  clear hmk
  go_wp2_with (rw [hEq.out])
  go_loopw [8] (fun s wr => ∃ i : Nat, s = .int .i64 i ∧ i ≤ ds.length ∧ ∃ os, DAt w2 wr w2.heap.size (ds.length + es.length + 1) ds es os i) (fun s _ => ds.length - (intOf s).toNat)
  case atStart => exact ⟨0, rfl, by omega, _, E0⟩
  case round =>
    obtain ⟨i, rfl, hi', os, E⟩ := hrel
    by_cases hlt : i < ds.length
    · rcases hr1.at' with h0 | ⟨bx, ox, rfl, hbx, cx⟩
      · rw [h0] at hlt; simp at hlt
      have CX := Lib.hid (cx i hlt)
      have bx' := HD1.out.get i hlt
      have hol := E.len
      have RW := Lib.hid E.rows
      obtain ⟨wo, rfl⟩ : ∃ wo : World, wo = wr := ⟨_, rfl⟩
      obtain ⟨x, hx⟩ : ∃ x, x = ds[i] := ⟨_, rfl⟩
      rw [← hx] at CX bx'
      have HXE := Lib.hid hx
      clear cx hx
      go_wp2_with fail
      go_loopw [9, 10] (fun s9 s10 wr => ∃ k over : Nat, s9 = .int .u64 over ∧ s10 = .int .i64 k ∧ over < 65536 ∧ k ≤ es.length + 1 ∧ Hid ((k ≤ es.length ∧ ∃ os', DIn w2 wr w2.heap.size (ds.length + es.length + 1) es os os' x i k over) ∨ (k = es.length + 1 ∧ over = 0 ∧ ∃ os', DAt w2 wr w2.heap.size (ds.length + es.length + 1) ds es os' (i + 1)))) (fun _ s _ => es.length + 1 - (intOf s).toNat)
      case atStart => exact ⟨0, 0, rfl, rfl, by omega, by omega, .inl ⟨by omega, os, ⟨hol, E.own, Row.start (by decide) E.rows.dig, E.bel⟩⟩⟩
      case round =>
        obtain ⟨k, over, rfl, rfl, hov, hk', HR⟩ := hrel
        rcases HR.out with ⟨hk2, os', R⟩ | ⟨rfl, rfl, os', A⟩
        · rcases Nat.lt_or_ge k es.length with hlt2 | hlt2
          · rcases hr2.at' with h0 | ⟨by1, oy, rfl, hby, cy⟩
            · rw [h0] at hlt2; simp at hlt2
            have cy' : wr.cell? ⟨by1, oy + k, none⟩ = some (.int .u64 (es[k] : Nat)) := by rw [R.bel.cell (p := ⟨by1, oy + k, none⟩) hby]; exact cy k hlt2
            have cx' : wr.cell? ⟨bx, ox + i, none⟩ = some (.int .u64 (x : Nat)) := by rw [R.bel.cell (p := ⟨bx, ox + i, none⟩) hbx]; exact CX.out
            have by' := HE1.out.get k hlt2
            have co := R.own.cell (i + k) (by rw [R.len]; omega)
            have cf := R.own.free (i + k)
            have bo := R.row.dig.getD (by decide) (i + k)
            have NX := Lib.hid (fun n => (R.dr n).next bx' HE1.out hlt2 (by rw [hol]; omega))
            have rs := row_step 65536 (by decide) x es[k] over (os'[i + k]?.getD 0) bx' by' hov bo
            have m1 := Nat.mul_le_mul (show x ≤ 65535 by omega) (show es[k] ≤ 65535 by omega)
            generalize os'[i + k]?.getD 0 = o at *
            generalize es[k] = y at *
            have p0 : 0 ≤ (x : Int) * (y : Int) := Int.mul_nonneg (by omega) (by omega)
            have pe : (x : Int) * (y : Int) = ((x * y : Nat) : Int) := by simp
            have p1 : (x : Int) * (y : Int) ≤ 4294836225 := by rw [pe]; omega
            have RS := Lib.hid rs
            have PE := Lib.hid pe
            clear rs pe m1 cy R HR
            go_wp2_with fail
            go_quiet (fail)
            go_wp2_with fail
            go_roundw
            case rel =>
              obtain ⟨os'', R'⟩ := NX.out _ (((o : Int) + (over : Int) + (x : Int) * (y : Int)) % 65536) ((x * y + over + o) / 65536) rfl (by have := PE.out; omega)
              exact ⟨k + 1, (x * y + over + o) / 65536, W.val_int (by have := PE.out; omega), by go_num, RS.out, by omega, .inl ⟨by omega, os'', R'⟩⟩
            case measure => simp [intOf]; omega
          · obtain rfl : k = es.length := by omega
            have z0 := (HXE.out ▸ R).zero hlt RW.out HD1.out HE1.out
            by_cases h0 : over = 0
            · subst h0
              have A := Lib.hid ((HXE.out ▸ R).done0 hlt RW.out HD1.out HE1.out)
              clear R HR z0
              go_wp2_with fail
              go_roundw
              case rel => exact ⟨i + 1, by go_num, by omega, os', A.out⟩
              case measure => simp [intOf]; omega
            · have hov1 : 0 < over := by omega
              have co := R.own.cell (i + es.length) (by rw [R.len]; omega)
              rw [z0] at co
              have cf := R.own.free (i + es.length)
              have A := Lib.hid (fun D hD => (HXE.out ▸ R).done hlt RW.out HD1.out HE1.out D hD)
              clear R HR z0 h0
              go_wp2_with fail
              go_roundw
              case rel =>
                obtain ⟨os'', A'⟩ := A.out ((over : Int) % 65536) (by omega)
                exact ⟨es.length + 1, 0, by go_num, by go_num, by omega, by omega, .inr ⟨rfl, rfl, os'', A'⟩⟩
              case measure => simp [intOf]
        · have AA := Lib.hid A
          clear HR A
          go_wp2_with fail
          go_roundw
          case rel => exact ⟨i + 1, by go_num, by omega, os', AA.out⟩
          case measure => simp [intOf]; omega
    · obtain rfl : i = ds.length := by omega
      have hdo := E.rows.dig
      have hol2 : os.length ≤ 1000000 := by rw [E.len]; omega
      have HJ := Lib.hid (join' (l := ds.length + es.length + 1) (zs := zs) E.own.rd hdo E.len (by omega) (by rw [HZ.out, E.fin]))
      have hbb := Lib.hid (Kp.nx hkp.out E.bel)
      clear E hdo hol2
      go_wp2_with fail
      refine HJ.out.mono ?_
      rintro e w3 ⟨q3, d3, rfl, ho3, hb3⟩
      have hf := Lib.hid (Gives.step hbb.out ho3 hb3)
      clear HJ ho3 hb3
      go_wp2
      go_ret
      exact hf.out
end Go.Proofs.RN
/- The document's Power, Shl, Shr of layer 2. -/
namespace Go.Proofs.RN
open Go.RowKit
open Go.Proofs
open Go.Proofs.NP
open Go.Proofs.SL
set_option linter.unusedVariables false
set_option maxRecDepth 20000
set_option linter.unusedSimpArgs false
variable {w : World} {a b : Option Addr} {ca cb l k : Nat} {xs ys zs : List Nat}

theorem two_le (r : Nat) (h : r ≤ 15) : 2 ^ r ≤ 32768 := Nat.le_trans (Nat.pow_le_pow_right (by decide) h) (by decide)

set_option maxHeartbeats 1000000 in
theorem power (n : Nat) (hn : n ≤ 65536) (w : World) (hz : zs = L (2 ^ n)) :
    Calls Tryz.prog 83 #[.int .i64 (n : Int)] w (Gives 66 w zs) := by
  obtain ⟨i0, hi, hz0, hz1, hz2⟩ := info_parts NT.Tryz.info66
  obtain ⟨wm, hmk, hown0, hgr0⟩ := run_make_full (P := Tryz.prog) w w.heap.size 44 66 i0 (.int .u64 0) 1 Tryz.underlying44 hi hz0 hz1 .i64 .i64 (n / 16 + 1) (by rw [hz2]; omega) (by unfold maxLen; omega) (Nat.le_refl _)
  rw [Nat.mul_one, show (Value.int .u64 0).cells = #[Value.int .u64 0] from rfl, toList_madeCells_one] at hown0
  rw [show (((n / 16 + 1 : Nat)) : Int) = (n : Int) / 16 + 1 by omega] at hmk
  have ho : Own 66 w.heap.size wm (some ⟨w.heap.size, 0, none⟩) (n / 16 + 1) (List.replicate (n / 16 + 1) 0) := ⟨Dig.zeros (by decide) _, by simpa [enc] using hown0⟩
  have hb : Below w.heap.size w wm := (Below.refl _ _).grown hgr0 (Nat.le_refl _) (fun k hk => by cases hk)
  clear hown0 hgr0
  have co := ho.cell (n / 16) (by simp)
  have cf := ho.free (n / 16)
  have o2 := ho.store (n / 16) (2 ^ (n % 16)) (by have := two_le (n % 16) (by omega); omega)
  have hg := ho.ge.1
  have hb2 := Lib.hid (hb.setCell (p := ⟨w.heap.size, n / 16, none⟩) hg (.int .u64 ((2 ^ (n % 16) : Nat) : Int)))
  have PV := Lib.hid (power_val n (n / 16 + 1) rfl)
  have PD := Lib.hid (power_dig n (n / 16 + 1))
  have HJ := Lib.hid (join' (l := n / 16 + 1) (zs := zs) o2.1.rd (power_dig n (n / 16 + 1)) (by simp) (by omega) (by rw [hz]; congr 1; exact (power_val n (n / 16 + 1) rfl).symm))
  have hEq := Lib.hid hmk
  have HT := Lib.hid (fun r => two_le r)
  clear hmk hz ho hb o2
  go_enter Tryz.func83, Tryz.ntmps83
  go_wp2_with (rw [hEq.out])
  go_loop [4, 5] (fun s4 s5 => ∃ x k : Nat, s4 = .int .u64 x ∧ s5 = .int .i64 k ∧ k ≤ n % 16 ∧ x ≤ 32768 ∧ Hid (x = 2 ^ k)) (fun _ s => n % 16 - (intOf s).toNat)
  case atStart => exact ⟨1, 0, rfl, rfl, by omega, by omega, rfl⟩
  case round =>
    obtain ⟨x, k, rfl, rfl, hk, hx, HX⟩ := hrel
    by_cases hlt : k < n % 16
    · have HX2 : Hid (2 * x = 2 ^ (k + 1)) := by rw [Hid, HX.out, Nat.pow_succ']
      have hx2 : 2 * x ≤ 32768 := by rw [HX2.out]; exact HT.out _ (by omega)
      clear HX
      go_wp2_with fail
      refine ⟨⟨2 * x, k + 1, by simp, by simp, by omega, hx2, HX2⟩, ?_⟩
      simp [intOf]; omega
    · have hkr : k = n % 16 := by omega
      have hxe : ((2 ^ (n % 16) : Nat) : Int) = (x : Int) := by rw [HX.out, hkr]
      rw [hxe] at HJ hb2
      clear hkr hxe HX
      go_wp2_with fail
      refine HJ.out.mono ?_
      rintro e w3 ⟨q3, d3, rfl, ho3, hb3⟩
      have hf := Lib.hid (Gives.step hb2.out ho3 hb3)
      clear HJ ho3 hb3
      go_wp2
      go_ret
      exact hf.out

theorem shl_no (len : Nat) (n : Int) (w : World) (h : n < 0 ∨ 65536 < n) :
    Calls Tryz.prog 63 #[.slice a len ca, .int .i64 n] w fun e w' => e = .returned (.tuple #[.slice none 0 0, .int .i64 1]) ∧ w = w' := by
  rcases h with h | h
  all_goals
    go_enter Tryz.func63, Tryz.ntmps63
    go_wp2_with fail
    go_ret2
    exact ⟨rfl, rfl⟩
theorem shr_no (len : Nat) (n : Int) (w : World) (h : n < 0 ∨ 65536 < n) :
    Calls Tryz.prog 58 #[.slice a len ca, .int .i64 n] w fun e w' => e = .returned (.tuple #[.slice none 0 0, .int .i64 1]) ∧ w = w' := by
  rcases h with h | h
  all_goals
    go_enter Tryz.func58, Tryz.ntmps58
    go_wp2_with fail
    go_ret2
    exact ⟨rfl, rfl⟩

theorem shl_ok (hx : Rd w a ca xs) (lx : xs.length = l) (h : l ≤ 50000) (i : Nat) (hi : i ≤ 65536) (hz : zs = L (V xs * 2 ^ i)) :
    Calls Tryz.prog 63 #[.slice a l ca, .int .i64 (i : Int)] w (NR.GivesE 66 w zs) := by
  obtain ⟨ps, hp⟩ : ∃ ps, ps = L (2 ^ i) := ⟨_, rfl⟩
  have hpl : ps.length ≤ 2000 := by
    rw [hp]
    refine Nat.le_trans (L_len _ (i / 64 + 1) ?_) (by omega)
    rw [show (18446744073709551616 : Nat) = 2 ^ 64 by decide, ← Nat.pow_mul]
    exact Nat.pow_lt_pow_right (by decide) (by omega)
  have HP := Lib.hid (power i hi w hp)
  have HM := Lib.hid (fun (w1 : World) (p : Option Addr) (c : Nat) (h1 : Rd w1 a ca xs) (h2 : Rd w1 p c ps) => mul (zs := zs) h1 h2 lx rfl h (by omega) (by rw [hz, hp, V_L]))
  have HX := Lib.hid hx
  clear hp hz hx lx
  go_enter Tryz.func63, Tryz.ntmps63
  go_wp2_with fail
  refine HP.out.mono ?_
  rintro e w1 ⟨p, c, rfl, ho, hb⟩
  have HC := Lib.hid (HM.out w1 p c (HX.out.nx hb) ho.rd)
  have HB := Lib.hid hb
  clear HP HM ho hb
  go_wp2_with fail
  refine HC.out.mono ?_
  rintro e w3 ⟨q3, d3, rfl, ho3, hb3⟩
  have hf := Lib.hid (show NR.GivesE 66 w zs (.returned (.tuple #[.slice q3 zs.length d3, .int .i64 0])) w3 from ⟨q3, d3, rfl, ho3.mono HB.out.size, HB.out.trans (hb3.mono HB.out.size)⟩)
  clear HC ho3 hb3
  go_wp2
  go_ret2
  exact hf.out

set_option maxHeartbeats 4000000 in
theorem shr_ok (hx : Rd w a ca xs) (lx : xs.length = l) (h : l ≤ 50000) (n : Nat) (hn : n ≤ 65536) (hz : zs = L (V xs / 2 ^ n)) :
    Calls Tryz.prog 58 #[.slice a l ca, .int .i64 (n : Int)] w (NR.GivesE 66 w zs) := by
  obtain ⟨i0, hi, hz0, hz1, hz2⟩ := info_parts NT.Tryz.info66
  obtain ⟨ds, hds⟩ : ∃ ds, ds = D (V xs) := ⟨_, rfl⟩
  have hdl : ds.length ≤ 200000 := by have := D_len hx.ws; rw [hds]; omega
  obtain ⟨B, hB⟩ : ∃ B, B = bitLen (V xs) := ⟨_, rfl⟩
  have hB1 : B ≤ 16 * ds.length := by
    rw [hB, bitLen_le_iff, Nat.pow_mul, hds]; exact Dlt _
  obtain ⟨T, hT⟩ : ∃ T, T = V xs / 2 ^ n := ⟨_, rfl⟩
  have TB := Lib.hid (show ∀ i, n ≤ i → B ≤ i → T % 2 ^ (i - n) = T from fun i h1 h2 => by
    apply Nat.mod_eq_of_lt
    rw [hT, Nat.div_lt_iff_lt_mul (Nat.two_pow_pos n), ← Nat.pow_add, Nat.sub_add_cancel h1]
    exact (bitLen_le_iff _ _).1 (by omega))
  have TI := Lib.hid (show ∀ k, V xs / 2 ^ (n + k) = T / 2 ^ k from fun k => by rw [hT, Nat.div_div_eq_div_mul, ← Nat.pow_add])
  rw [← hT] at hz
  have HZ := Lib.hid hz
  have HC := Lib.hid (digits' hx lx (by omega) hds)
  have HL := Lib.hid (fun (w1 : World) (hx : Rd w1 a ca xs) => len hx lx (by omega) B hB)
  have HBt := Lib.hid (fun (w1 : World) (hx : Rd w1 a ca xs) (i : Nat) (hi : i ≤ 10000000) (z : Bool) (hz : z = (V xs / 2 ^ i % 2 == 1)) => bit hx lx (by omega) i (by omega) z hz)
  have HX := Lib.hid hx
  have HT := Lib.hid (fun r => two_le r)
  clear hz hds hx lx hB hT
  go_enter Tryz.func58, Tryz.ntmps58
  go_wp2_with fail
  refine HC.out.mono ?_
  rintro e w1 ⟨p, c, rfl, ho, hb⟩
  have HX1 := Lib.hid (HX.out.nx hb)
  have HB1 := Lib.hid hb
  clear HC HX ho hb
  obtain ⟨wm, hmk, hown0, hgr0⟩ := run_make_full (P := Tryz.prog) w1 w1.heap.size 44 66 i0 (.int .u64 0) 1 Tryz.underlying44 hi hz0 hz1 .i64 .i64 (ds.length + 1) (by rw [hz2]; omega) (by unfold maxLen; omega) (Nat.le_refl _)
  rw [Nat.mul_one, show (Value.int .u64 0).cells = #[Value.int .u64 0] from rfl, toList_madeCells_one] at hown0
  rw [show (((ds.length + 1 : Nat)) : Int) = (ds.length : Int) + 1 by omega] at hmk
  have ho0 : Own 66 w1.heap.size wm (some ⟨w1.heap.size, 0, none⟩) (ds.length + 1) (List.replicate (ds.length + 1) 0) := ⟨Dig.zeros (by decide) _, by simpa [enc] using hown0⟩
  have hb0 : Below w1.heap.size w1 wm := (Below.refl _ _).grown hgr0 (Nat.le_refl _) (fun k hk => by cases hk)
  clear hown0 hgr0
  have hEq := Lib.hid hmk
  clear hmk
  go_wp2_with (rw [hEq.out])
  go_loopw [7] (fun s wr => ∃ (i : Nat) (os : List Nat), s = .int .i64 i ∧ n ≤ i ∧ (i ≤ n ∨ i ≤ B) ∧ os.length = ds.length + 1 ∧ Hid (Dig 65536 os) ∧ Hid (val 65536 os = T % 2 ^ (i - n)) ∧ Own 66 w1.heap.size wr (some ⟨w1.heap.size, 0, none⟩) (ds.length + 1) os ∧ Below w1.heap.size w1 wr) (fun s _ => B - (intOf s).toNat)
  case atStart => exact ⟨n, _, rfl, by omega, .inl (by omega), by simp, Dig.zeros (by decide) _, by rw [Hid, val_zeros]; simp [Nat.mod_one], ho0, hb0⟩
  case round =>
    obtain ⟨i, os, rfl, hni, hib, hol, HD, HV, ho, hb⟩ := hrel
    obtain ⟨wo, rfl⟩ : ∃ wo : World, wo = wr := ⟨_, rfl⟩
    have hxo := HX1.out.nx hb
    have HL1 := Lib.hid (HL.out wo hxo)
    have HXo := Lib.hid hxo
    clear hxo
    go_wp2_with fail
    refine HL1.out.mono ?_
    rintro e w3 ⟨rfl, hb3⟩
    have ho3 := ho.nx hb3
    have hb13 : Below w1.heap.size w1 w3 := Kp.nx hb hb3
    have HX3 := HXo.out.nx hb3
    clear HL1 HXo ho hb hb3 ho0 hb0
    by_cases hlt : i < B
    · obtain ⟨k, rfl⟩ : ∃ k, i = n + k := ⟨i - n, by omega⟩
      rw [show n + k - n = k by omega] at HV
      have hkl : k / 16 < os.length := by omega
      obtain ⟨z, hzz⟩ : ∃ z : Bool, z = (V xs / 2 ^ (n + k) % 2 == 1) := ⟨_, rfl⟩
      have HB3 := Lib.hid (HBt.out w3 HX3 (n + k) (by omega) z hzz)
      rw [TI.out] at hzz
      have HZZ := Lib.hid hzz
      clear hzz HX3
      rw [show ((n + k : Nat) : Int) = (n : Int) + (k : Int) by omega] at HB3 ⊢
      go_wp2_with fail
      refine HB3.out.mono ?_
      rintro e w4 ⟨rfl, hb4⟩
      have ho4 := ho3.nx hb4
      have hb14 : Below w1.heap.size w1 w4 := Kp.nx hb13 hb4
      clear HB3 ho3 hb13 hb4
      cases z with
      | false =>
        have hz0 : T / 2 ^ k % 2 = 0 := by have := HZZ.out; simp at this; omega
        have HV2 : Hid (val 65536 os = T % 2 ^ (n + k + 1 - n)) := by rw [Hid, HV.out, show n + k + 1 - n = k + 1 by omega]; exact bit_not T k hz0
        clear hz0 HZZ HV
        go_wp2_with fail
        go_roundw
        case rel => exact ⟨n + k + 1, os, by go_num, by omega, .inr (by omega), hol, HD, HV2, ho4, hb14⟩
        case measure => simp [intOf]; omega
      | true =>
        have hz1 : T / 2 ^ k % 2 = 1 := by have := HZZ.out; simp at this; omega
        have hset := bit_set T k HD.out HV.out hkl hz1
        have hroom := bit_room T k HD.out HV.out
        have co := ho4.cell (k / 16) hkl
        have cf := ho4.free (k / 16)
        have o2 := ho4.store (k / 16) (os[k / 16]?.getD 0 + 2 ^ (k % 16)) (by omega)
        have hg := ho4.ge.1
        have hb5 := hb14.setCell (p := ⟨w1.heap.size, k / 16, none⟩) hg (.int .u64 ((os[k / 16]?.getD 0 + 2 ^ (k % 16) : Nat) : Int))
        obtain ⟨ps, hps⟩ : ∃ ps, ps = os.set (k / 16) (os[k / 16]?.getD 0 + 2 ^ (k % 16)) := ⟨_, rfl⟩
        have hpl : ps.length = ds.length + 1 := by rw [hps]; simp; omega
        rw [← hps] at hset o2
        have HD2 := Lib.hid hset.1
        have HV2 : Hid (val 65536 ps = T % 2 ^ (n + k + 1 - n)) := by rw [Hid, show n + k + 1 - n = k + 1 by omega]; exact hset.2
        have o3 := o2.1
        obtain ⟨v, hv⟩ : ∃ v, v = os[k / 16]?.getD 0 := ⟨_, rfl⟩
        obtain ⟨t, ht⟩ : ∃ t, t = 2 ^ (k % 16) := ⟨_, rfl⟩
        rw [← hv] at co hroom o3 hb5
        rw [← ht] at hroom o3 hb5
        have HT1 := Lib.hid ht
        have HF := Lib.hid (show Own 66 w1.heap.size (w4.setCell ⟨w1.heap.size, k / 16, none⟩ (.int .u64 ((v + t : Nat) : Int))) (some ⟨w1.heap.size, 0, none⟩) (ds.length + 1) ps ∧ Below w1.heap.size w1 (w4.setCell ⟨w1.heap.size, k / 16, none⟩ (.int .u64 ((v + t : Nat) : Int))) from ⟨o3, hb5⟩)
        rw [show ((v + t : Nat) : Int) = (v : Int) + (t : Int) by omega] at HF
        clear hz1 hset o2 o3 hb5 hps hv ht HZZ HV HD ho4 hb14
        go_wp2_with fail
        go_loop [9, 10] (fun s4 s5 => ∃ x m : Nat, s4 = .int .u64 x ∧ s5 = .int .i64 m ∧ m ≤ k % 16 ∧ x ≤ 32768 ∧ Hid (x = 2 ^ m)) (fun _ s => k % 16 - (intOf s).toNat)
        case atStart => exact ⟨1, 0, rfl, rfl, by omega, by omega, rfl⟩
        case round =>
          obtain ⟨x, m, rfl, rfl, hm, hx, HXM⟩ := hrel
          by_cases hlt2 : m < k % 16
          · have HX2 : Hid (2 * x = 2 ^ (m + 1)) := by rw [Hid, HXM.out, Nat.pow_succ']
            have hx2 : 2 * x ≤ 32768 := by rw [HX2.out]; exact HT.out _ (by omega)
            clear HXM
            go_wp2_with fail
            refine ⟨⟨2 * x, m + 1, by simp, by simp, by omega, hx2, HX2⟩, ?_⟩
            simp [intOf]; omega
          · have hkr : m = k % 16 := by omega
            obtain rfl : x = t := by rw [HT1.out, HXM.out, hkr]
            clear hkr HXM HT1
            go_wp2_with fail
            go_roundw
            case rel => exact ⟨n + k + 1, ps, by go_num, by omega, .inr (by omega), hpl, HD2, HV2, HF.out.1, HF.out.2⟩
            case measure => simp [intOf]; omega
    · have hv := TB.out i hni (by omega)
      have hvo := HV.out
      rw [hv] at hvo
      have HJ := Lib.hid (join' (l := ds.length + 1) (zs := zs) ho3.rd HD.out hol (by omega) (by rw [HZ.out]; congr 1; exact hvo.symm))
      have hbb := Lib.hid (Kp.nx HB1.out hb13)
      clear hv hvo HV ho3 hb13
      go_wp2_with fail
      refine HJ.out.mono ?_
      rintro e w5 ⟨q3, d3, rfl, ho5, hb5⟩
      have hf := Lib.hid (show NR.GivesE 66 w zs (.returned (.tuple #[.slice q3 zs.length d3, .int .i64 0])) w5 from ⟨q3, d3, rfl, ho5.mono hbb.out.size, hbb.out.trans (hb5.mono hbb.out.size)⟩)
      clear HJ ho5 hb5
      go_wp2
      go_ret2
      exact hf.out
end Go.Proofs.RN
/- What the laws NatTells, NatSums, NatProducts meet beside: spoil, Small, Bit at any place, shifts at any place. -/
namespace Go.Proofs.RN
open Go.RowKit
open Go.Proofs
open Go.Proofs.NP
open Go.Proofs.SL
set_option linter.unusedVariables false
set_option maxRecDepth 20000
set_option linter.unusedSimpArgs false

theorem Own.from' {e : TypeId} {B : Nat} {w : World} {a : Option Addr} {cap : Nat} {xs : List Nat} (h : Own e B w a cap xs) {C : Nat} (hC : C ≤ B) : ∀ k, blk a = some k → C ≤ k := by
  rcases h.cases with ⟨rfl, _⟩ | ⟨g, rfl, h1, _⟩
  · intro k hk; simp [blk] at hk
  · intro k hk; simp [blk] at hk; omega
theorem Own.apart {e e' : TypeId} {B B' : Nat} {w w' : World} {a a' : Option Addr} {cap cap' : Nat} {xs ys : List Nat} (h : Own e B w a cap xs) (h' : Own e' B' w' a' cap' ys) (hB : w.heap.size ≤ B') : ∀ g, a' = some ⟨g, 0, none⟩ → some g ≠ blk a := by
  intro g hg
  rcases h.cases with ⟨rfl, _⟩ | ⟨k, rfl, _, h1, _⟩
  · simp [blk]
  · rcases h'.cases with ⟨rfl, _⟩ | ⟨j, rfl, h2, _⟩
    · simp at hg
    · simp at hg; simp [blk]; omega

variable {w : World} {a b : Option Addr} {ca cb l k : Nat} {xs ys zs : List Nat}
/-- the number that Small tells, and whether there is one -/
def smN (n : Nat) : Nat := if n < 18446744073709551616 then n else 0
def smB (n : Nat) : Bool := decide (n < 18446744073709551616)
theorem small2 (hx : Rd w a ca xs) (lx : xs.length = l) (h : l ≤ 100000) (n : Nat) (z : Bool) (hn : n = smN (V xs)) (hz : z = smB (V xs)) :
    Calls Tryz.prog 59 #[.slice a l ca] w fun e w' => e = .returned (.tuple #[.int .u64 (n : Nat), .bool z]) ∧ Kp w w' := by
  by_cases hv : V xs < 18446744073709551616
  · obtain rfl : n = V xs := by rw [hn, smN, if_pos hv]
    obtain rfl : z = true := by rw [hz, smB]; simpa using hv
    exact small_ok hx lx h _ rfl hv
  · obtain rfl : n = 0 := by rw [hn, smN, if_neg hv]
    obtain rfl : z = false := by rw [hz, smB]; simpa using hv
    exact small_no hx lx h (by omega)

/-- the bit at any place -/
def bitZ (n : Nat) (i : Int) : Bool := if i < 0 then false else (n / 2 ^ i.toNat % 2 == 1)
theorem bit2 (hx : Rd w a ca xs) (lx : xs.length = l) (h : l ≤ 100000) (i : Int) (hi : i ≤ 9223372036854775807) (z : Bool) (hz : z = bitZ (V xs) i) :
    Calls Tryz.prog 57 #[.slice a l ca, .int .i64 i] w fun e w' => e = .returned (.bool z) ∧ Kp w w' := by
  by_cases h0 : i < 0
  · obtain rfl : z = false := by rw [hz, bitZ, if_pos h0]
    exact bit_no hx lx h i h0
  · obtain ⟨n, rfl⟩ : ∃ n : Nat, i = n := ⟨i.toNat, by omega⟩
    rw [bitZ, if_neg h0, Int.toNat_natCast] at hz
    exact bit hx lx h n (by omega) z hz

/-- a slice and an error -/
def GivesX (w : World) (xs : List Nat) (c : Int) (en : Ending) (w' : World) : Prop :=
  ∃ a cap, en = .returned (.tuple #[.slice a xs.length cap, .int .i64 c]) ∧ Own 66 w.heap.size w' a cap xs ∧ Below w.heap.size w w'
theorem nilX (w w' : World) (c : Int) (h : Kp w w') : GivesX w [] c (.returned (.tuple #[.slice none 0 0, .int .i64 c])) w' :=
  ⟨none, 0, rfl, ⟨Dig.nil _, World.ownsRow_nil w' _ _ _⟩, h⟩

def subL (m n : Nat) : List Nat := if m < n then [] else L (m - n)
def subE (m n : Nat) : Int := if m < n then 8 else 0
theorem sub1 (hx : Rd w a ca xs) (hy : Rd w b cb ys) (lx : xs.length = l) (ly : ys.length = k) (h : l ≤ 100000) (h' : k ≤ 100000) (c : Int) (hz : zs = subL (V xs) (V ys)) (hc : c = subE (V xs) (V ys)) :
    Calls Tryz.prog 90 #[.slice a l ca, .slice b k cb] w (GivesX w zs c) := by
  by_cases hv : V xs < V ys
  · obtain rfl : zs = [] := by rw [hz, subL, if_pos hv]
    obtain rfl : c = 8 := by rw [hc, subE, if_pos hv]
    refine (NR.sub_no hx hy lx ly h h' hv).mono ?_
    rintro e w' ⟨rfl, rfl⟩
    exact nilX _ _ _ (Kp.refl _)
  · rw [subL, if_neg hv] at hz
    obtain rfl : c = 0 := by rw [hc, subE, if_neg hv]
    exact NR.sub_ok hx hy lx ly h h' hz (by omega)
theorem sub2 (hx : Rd w a ca xs) (hy : Rd w b cb ys) (lx : xs.length = l) (ly : ys.length = k) (h : l ≤ 100000) (h' : k ≤ 100000) (c : Int) (hz : zs = subL (V xs) (V ys)) (hc : c = subE (V xs) (V ys)) :
    Calls Tryz.prog 62 #[.slice a l ca, .slice b k cb] w (GivesX w zs c) := by
  by_cases hv : V xs < V ys
  · obtain rfl : zs = [] := by rw [hz, subL, if_pos hv]
    obtain rfl : c = 8 := by rw [hc, subE, if_pos hv]
    refine (sub_no hx hy lx ly h h' hv).mono ?_
    rintro e w' ⟨rfl, hk⟩
    exact nilX _ _ _ hk
  · rw [subL, if_neg hv] at hz
    obtain rfl : c = 0 := by rw [hc, subE, if_neg hv]
    exact sub_ok hx hy lx ly h h' hz (by omega)

def shOk (n : Int) : Prop := 0 ≤ n ∧ n ≤ 65536
instance (n : Int) : Decidable (shOk n) := by unfold shOk; infer_instance
def shE (n : Int) : Int := if shOk n then 0 else 1
def shlL (m : Nat) (n : Int) : List Nat := if shOk n then L (m * 2 ^ n.toNat) else []
def shrL (m : Nat) (n : Int) : List Nat := if shOk n then L (m / 2 ^ n.toNat) else []
theorem sh_cases (n : Int) : (∃ i : Nat, n = i ∧ i ≤ 65536 ∧ shOk n) ∨ ((n < 0 ∨ 65536 < n) ∧ ¬ shOk n) := by
  by_cases h : shOk n
  · exact .inl ⟨n.toNat, by have := h.1; omega, by have := h.2; omega, h⟩
  · refine .inr ⟨?_, h⟩; unfold shOk at h; omega
theorem shl1 (hx : Rd w a ca xs) (lx : xs.length = l) (h : l ≤ 50000) (n : Int) (c : Int) (hz : zs = shlL (V xs) n) (hc : c = shE n) :
    Calls Tryz.prog 43 #[.slice a l ca, .int .i64 n] w (GivesX w zs c) := by
  rcases sh_cases n with ⟨i, rfl, hi, ho⟩ | ⟨hn, ho⟩
  · rw [shlL, if_pos ho, Int.toNat_natCast] at hz
    obtain rfl : c = 0 := by rw [hc, shE, if_pos ho]
    exact NR.shl_ok hx lx (by omega) i hi hz
  · obtain rfl : zs = [] := by rw [hz, shlL, if_neg ho]
    obtain rfl : c = 1 := by rw [hc, shE, if_neg ho]
    refine (NT.shl_no a l ca n w hn).mono ?_
    rintro e w' ⟨rfl, rfl⟩
    exact nilX _ _ _ (Kp.refl _)
theorem shl2 (hx : Rd w a ca xs) (lx : xs.length = l) (h : l ≤ 50000) (n : Int) (c : Int) (hz : zs = shlL (V xs) n) (hc : c = shE n) :
    Calls Tryz.prog 63 #[.slice a l ca, .int .i64 n] w (GivesX w zs c) := by
  rcases sh_cases n with ⟨i, rfl, hi, ho⟩ | ⟨hn, ho⟩
  · rw [shlL, if_pos ho, Int.toNat_natCast] at hz
    obtain rfl : c = 0 := by rw [hc, shE, if_pos ho]
    exact shl_ok hx lx h i hi hz
  · obtain rfl : zs = [] := by rw [hz, shlL, if_neg ho]
    obtain rfl : c = 1 := by rw [hc, shE, if_neg ho]
    refine (shl_no l n w hn).mono ?_
    rintro e w' ⟨rfl, rfl⟩
    exact nilX _ _ _ (Kp.refl _)
theorem shr1 (hx : Rd w a ca xs) (lx : xs.length = l) (h : l ≤ 50000) (n : Int) (c : Int) (hz : zs = shrL (V xs) n) (hc : c = shE n) :
    Calls Tryz.prog 78 #[.slice a l ca, .int .i64 n] w (GivesX w zs c) := by
  rcases sh_cases n with ⟨i, rfl, hi, ho⟩ | ⟨hn, ho⟩
  · rw [shrL, if_pos ho, Int.toNat_natCast] at hz
    obtain rfl : c = 0 := by rw [hc, shE, if_pos ho]
    exact NR.shr_ok hx lx (by omega) i hi hz
  · obtain rfl : zs = [] := by rw [hz, shrL, if_neg ho]
    obtain rfl : c = 1 := by rw [hc, shE, if_neg ho]
    refine (NT.shr_no a l ca n w hn).mono ?_
    rintro e w' ⟨rfl, rfl⟩
    exact nilX _ _ _ (Kp.refl _)
theorem shr2 (hx : Rd w a ca xs) (lx : xs.length = l) (h : l ≤ 50000) (n : Int) (c : Int) (hz : zs = shrL (V xs) n) (hc : c = shE n) :
    Calls Tryz.prog 58 #[.slice a l ca, .int .i64 n] w (GivesX w zs c) := by
  rcases sh_cases n with ⟨i, rfl, hi, ho⟩ | ⟨hn, ho⟩
  · rw [shrL, if_pos ho, Int.toNat_natCast] at hz
    obtain rfl : c = 0 := by rw [hc, shE, if_pos ho]
    exact shr_ok hx lx h i hi hz
  · obtain rfl : zs = [] := by rw [hz, shrL, if_neg ho]
    obtain rfl : c = 1 := by rw [hc, shE, if_neg ho]
    refine (shr_no l n w hn).mono ?_
    rintro e w' ⟨rfl, rfl⟩
    exact nilX _ _ _ (Kp.refl _)
theorem len_zero (n : Nat) : (((bitLen n : Nat) : Int) == 0) = (n == 0) := by
  rw [Bool.eq_iff_iff]
  simp
  constructor
  · intro h
    by_cases h0 : n = 0
    · exact h0
    · have := bitLen_pos _ h0; omega
  · intro h; rw [h]; rfl

theorem subL_len {m n i : Nat} (h : NR.Fits m i) : (subL m n).length ≤ i := by
  unfold subL; split
  · simp
  · exact (h.sub n).len
theorem shlL_len {m i : Nat} (h : NR.Fits m i) (n : Int) (hn : n ≤ 2000) : (shlL m n).length ≤ i + 2000 := by
  unfold shlL; split
  · have := (h.shl n.toNat).len; omega
  · simp
theorem shrL_len {m i : Nat} (h : NR.Fits m i) (n : Int) : (shrL m n).length ≤ i := by
  unfold shrL; split
  · exact (h.div _).len
  · simp
end Go.Proofs.RN
