/- Alias tables: plain: how one is made, and what it shares out. No program in sight. -/
import Derived.Test.YticickjnlkbkoaaGreatMN
namespace Go.Proofs.AL
open Go.RowKit
open Go.Proofs
open Go
set_option linter.unusedVariables false
set_option linter.unusedSimpArgs false
/-- put at a place -/
def put (f : Nat → Int) (x : Nat) (v : Int) : Nat → Int := fun y => if y = x then v else f y
/-- what the making has: heights, cuts, others, the low and the high places -/
structure St where
  ht : Nat → Int
  cu : Nat → Int
  ot : Nat → Int
  lo : List Nat
  hi : List Nat
def st0 : St := ⟨fun _ => 0, fun _ => 0, fun _ => 0, [], []⟩
/-- a place is laid -/
def step2 (n : Nat) (s : Int) (w : Nat → Int) (t : St) (i : Nat) : St :=
  { ht := put t.ht i (n * w i), cu := put t.cu i s, ot := put t.ot i i,
    lo := if n * w i < s then t.lo ++ [i] else t.lo, hi := if n * w i < s then t.hi else t.hi ++ [i] }
def st2 (n : Nat) (s : Int) (w : Nat → Int) : Nat → St
  | 0 => st0
  | i + 1 => step2 n s w (st2 n s w i) i
/-- a low place is filled from a high one -/
def step3 (s : Int) (t : St) (l h : Nat) (lo' hi' : List Nat) : St :=
  let v := t.ht h - (s - t.ht l)
  { ht := put t.ht h v, cu := put t.cu l (t.ht l), ot := put t.ot l h,
    lo := if v < s then lo' ++ [h] else lo', hi := if v < s then hi' else hi' ++ [h] }
def run3 (s : Int) : Nat → St → St
  | 0, t => t
  | f + 1, t =>
    if hl : t.lo = [] then t else if hh : t.hi = [] then t else
      run3 s f (step3 s t (t.lo.getLast hl) (t.hi.getLast hh) t.lo.dropLast t.hi.dropLast)
/-- the sum of the weights below a place -/
def up (w : Nat → Int) : Nat → Int
  | 0 => 0
  | i + 1 => up w i + w i
/-- the table of n weights -/
def table (n : Nat) (w : Nat → Int) : St := run3 (up w n) (n + 1) (st2 n (up w n) w n)
/-- what holds all along: heights, places -/
structure Ok (n : Nat) (s : Int) (t : St) : Prop where
  low : ∀ l ∈ t.lo, 0 ≤ t.ht l ∧ t.ht l < s
  high : ∀ h ∈ t.hi, s ≤ t.ht h ∧ t.ht h ≤ 134217728
  nodup : (t.lo ++ t.hi).Nodup
  lt : ∀ i ∈ t.lo ++ t.hi, i < n
theorem up_nonneg {w : Nat → Int} (h : ∀ i, 0 ≤ w i) : ∀ n, 0 ≤ up w n
  | 0 => by simp [up]
  | n + 1 => by have := up_nonneg h n; have := h n; rw [up]; omega
theorem up_le {w : Nat → Int} {m : Int} (h : ∀ i, w i ≤ m) : ∀ n : Nat, up w n ≤ n * m
  | 0 => by simp [up]
  | n + 1 => by
    have h1 := up_le h n
    have h2 := h n
    have e : ((n + 1 : Nat) : Int) * m = n * m + m := by rw [Int.natCast_add, Int.add_mul]; omega
    rw [up, e]; omega
theorem st2_lt (n : Nat) (s : Int) (w : Nat → Int) : ∀ i, (∀ x ∈ (st2 n s w i).lo, x < i) ∧ (∀ x ∈ (st2 n s w i).hi, x < i) ∧ (st2 n s w i).lo.length + (st2 n s w i).hi.length = i
  | 0 => by simp [st2, st0]
  | i + 1 => by
    obtain ⟨h1, h2, h3⟩ := st2_lt n s w i
    simp only [st2, step2]
    refine ⟨fun x hx => ?_, fun x hx => ?_, ?_⟩
    · split at hx
      · rcases List.mem_append.1 hx with h | h
        · have := h1 x h; omega
        · simp at h; omega
      · have := h1 x hx; omega
    · split at hx
      · have := h2 x hx; omega
      · rcases List.mem_append.1 hx with h | h
        · have := h2 x h; omega
        · simp at h; omega
    · split <;> simp <;> omega
theorem put_eq (f : Nat → Int) (x : Nat) (v : Int) : put f x v x = v := by simp [put]
theorem put_ne (f : Nat → Int) {x y : Nat} (v : Int) (h : y ≠ x) : put f x v y = f y := by simp [put, h]
theorem Ok.step {n : Nat} {s : Int} {t : St} (h : Ok n s t) {lo' hi' : List Nat} {l k : Nat} (hl : t.lo = lo' ++ [l]) (hk : t.hi = hi' ++ [k]) : Ok n s (step3 s t l k lo' hi') ∧ l ≠ k ∧ 0 ≤ t.ht l ∧ t.ht l < s ∧ s ≤ t.ht k ∧ t.ht k ≤ 134217728 ∧ l < n ∧ k < n := by
  have l1 := h.low l (by rw [hl]; simp)
  have k1 := h.high k (by rw [hk]; simp)
  have hnd := h.nodup
  have hlt := h.lt
  rw [hl, hk] at hnd hlt
  have hln := hlt l (by simp)
  have hkn := hlt k (by simp)
  simp only [List.nodup_append, List.mem_append, List.mem_singleton, List.nodup_cons, List.not_mem_nil, not_false_eq_true, List.nodup_nil, and_true, true_and, forall_eq] at hnd
  obtain ⟨⟨n1, n2⟩, ⟨n3, n4⟩, n5⟩ := hnd
  have hlk : l ≠ k := n5 l (.inr rfl) k (.inr rfl)
  have nk1 : ∀ x ∈ lo', x ≠ k := fun x hx => n5 x (.inl hx) k (.inr rfl)
  have nk2 : ∀ x ∈ hi', x ≠ k := fun x hx e => n4 x hx e
  refine ⟨?_, hlk, l1.1, l1.2, k1.1, k1.2, hln, hkn⟩
  have hv : 0 ≤ t.ht k - (s - t.ht l) ∧ t.ht k - (s - t.ht l) ≤ 134217728 := by omega
  unfold step3
  by_cases hc : t.ht k - (s - t.ht l) < s
  · simp only [if_pos hc]
    refine ⟨fun x hx => ?_, fun x hx => ?_, ?_, fun x hx => ?_⟩
    · rcases List.mem_append.1 hx with hx | hx
      · simp only [put_ne _ _ (nk1 x hx)]
        exact h.low x (by rw [hl]; simp [hx])
      · simp only [List.mem_singleton] at hx
        subst hx
        simp only [put_eq]
        exact ⟨hv.1, hc⟩
    · simp only [put_ne _ _ (nk2 x hx)]
      exact h.high x (by rw [hk]; simp [hx])
    · simp only [List.nodup_append, List.mem_append, List.mem_singleton, List.nodup_cons, List.not_mem_nil, not_false_eq_true, List.nodup_nil, and_true, true_and]
      refine ⟨⟨n1, fun a ha b hb => by subst hb; exact nk1 a ha⟩, n3, fun a ha b hb => ?_⟩
      rcases ha with ha | ha
      · exact n5 a (.inl ha) b (.inl hb)
      · subst ha; exact fun e => nk2 b hb e.symm
    · rcases List.mem_append.1 hx with hx | hx
      · rcases List.mem_append.1 hx with hx | hx
        · exact hlt x (by simp [hx])
        · simp only [List.mem_singleton] at hx; subst hx; exact hkn
      · exact hlt x (by simp [hx])
  · simp only [if_neg hc]
    refine ⟨fun x hx => ?_, fun x hx => ?_, ?_, fun x hx => ?_⟩
    · simp only [put_ne _ _ (nk1 x hx)]
      exact h.low x (by rw [hl]; simp [hx])
    · rcases List.mem_append.1 hx with hx | hx
      · simp only [put_ne _ _ (nk2 x hx)]
        exact h.high x (by rw [hk]; simp [hx])
      · simp only [List.mem_singleton] at hx
        subst hx
        simp only [put_eq]
        exact ⟨by omega, hv.2⟩
    · simp only [List.nodup_append, List.mem_append, List.mem_singleton, List.nodup_cons, List.not_mem_nil, not_false_eq_true, List.nodup_nil, and_true, true_and]
      refine ⟨n1, ⟨n3, fun a ha b hb => by subst hb; exact nk2 a ha⟩, fun a ha b hb => ?_⟩
      rcases hb with hb | hb
      · exact n5 a (.inl ha) b (.inl hb)
      · subst hb; exact nk1 a ha
    · rcases List.mem_append.1 hx with hx | hx
      · exact hlt x (by simp [hx])
      · rcases List.mem_append.1 hx with hx | hx
        · exact hlt x (by simp [hx])
        · simp only [List.mem_singleton] at hx; subst hx; exact hkn
theorem Ok.start {n : Nat} {s : Int} {w : Nat → Int} (h0 : ∀ i, 0 ≤ (n : Int) * w i) (h1 : ∀ i, (n : Int) * w i ≤ 134217728) : ∀ i, i ≤ n → Ok n s (st2 n s w i) ∧ ∀ x, x < i → True
  | 0, _ => ⟨⟨by simp [st2, st0], by simp [st2, st0], by simp [st2, st0], by simp [st2, st0]⟩, fun _ _ => trivial⟩
  | i + 1, hi => by
    obtain ⟨hO, -⟩ := Ok.start (s := s) h0 h1 i (by omega)
    obtain ⟨b1, b2, -⟩ := st2_lt n s w i
    refine ⟨?_, fun _ _ => trivial⟩
    have m1 : ∀ x ∈ (st2 n s w i).lo, x ≠ i := fun x hx e => by have := b1 x hx; omega
    have m2 : ∀ x ∈ (st2 n s w i).hi, x ≠ i := fun x hx e => by have := b2 x hx; omega
    have hnd := hO.nodup
    simp only [List.nodup_append] at hnd
    simp only [st2, step2]
    by_cases hc : (n : Int) * w i < s
    · simp only [if_pos hc]
      refine ⟨fun x hx => ?_, fun x hx => ?_, ?_, fun x hx => ?_⟩
      · rcases List.mem_append.1 hx with hx | hx
        · simp only [put_ne _ _ (m1 x hx)]; exact hO.low x hx
        · simp only [List.mem_singleton] at hx; subst hx; simp only [put_eq]; exact ⟨h0 _, hc⟩
      · simp only [put_ne _ _ (m2 x hx)]; exact hO.high x hx
      · simp only [List.nodup_append, List.mem_append, List.mem_singleton, List.nodup_cons, List.not_mem_nil, not_false_eq_true, List.nodup_nil, and_true, true_and]
        refine ⟨⟨hnd.1, fun a ha b hb => by subst hb; exact m1 a ha⟩, hnd.2.1, fun a ha b hb => ?_⟩
        rcases ha with ha | ha
        · exact hnd.2.2 a ha b hb
        · subst ha; exact fun e => m2 b hb e.symm
      · rcases List.mem_append.1 hx with hx | hx
        · rcases List.mem_append.1 hx with hx | hx
          · have := b1 x hx; omega
          · simp only [List.mem_singleton] at hx; omega
        · have := b2 x hx; omega
    · simp only [if_neg hc]
      refine ⟨fun x hx => ?_, fun x hx => ?_, ?_, fun x hx => ?_⟩
      · simp only [put_ne _ _ (m1 x hx)]; exact hO.low x hx
      · rcases List.mem_append.1 hx with hx | hx
        · simp only [put_ne _ _ (m2 x hx)]; exact hO.high x hx
        · simp only [List.mem_singleton] at hx; subst hx; simp only [put_eq]; exact ⟨by omega, h1 _⟩
      · simp only [List.nodup_append, List.mem_append, List.mem_singleton, List.nodup_cons, List.not_mem_nil, not_false_eq_true, List.nodup_nil, and_true, true_and]
        refine ⟨hnd.1, ⟨hnd.2.1, fun a ha b hb => by subst hb; exact m2 a ha⟩, fun a ha b hb => ?_⟩
        rcases hb with hb | hb
        · exact hnd.2.2 a ha b hb
        · subst hb; exact m1 a ha
      · rcases List.mem_append.1 hx with hx | hx
        · have := b1 x hx; omega
        · rcases List.mem_append.1 hx with hx | hx
          · have := b2 x hx; omega
          · simp only [List.mem_singleton] at hx; omega
theorem run3_end {s : Int} {t : St} (h : t.lo = [] ∨ t.hi = []) : ∀ f, run3 s f t = t
  | 0 => rfl
  | f + 1 => by
    rw [run3]
    rcases h with h | h
    · rw [dif_pos h]
    · by_cases hl : t.lo = []
      · rw [dif_pos hl]
      · rw [dif_neg hl, dif_pos h]
theorem run3_step {s : Int} {t : St} {lo' hi' : List Nat} {l k : Nat} (hl : t.lo = lo' ++ [l]) (hk : t.hi = hi' ++ [k]) (f : Nat) : run3 s (f + 1) t = run3 s f (step3 s t l k lo' hi') := by
  have h1 : t.lo ≠ [] := by rw [hl]; simp
  have h2 : t.hi ≠ [] := by rw [hk]; simp
  rw [run3, dif_neg h1, dif_neg h2]
  have e1 : t.lo.getLast h1 = l := by simp [hl]
  have e2 : t.hi.getLast h2 = k := by simp [hk]
  have e3 : t.lo.dropLast = lo' := by simp [hl]
  have e4 : t.hi.dropLast = hi' := by simp [hk]
  rw [e1, e2, e3, e4]
end Go.Proofs.AL
