/- Alias tables: plain: over all strings of n bits a place comes by its share. No program in sight. -/
import Derived.Test.YticickjnlkbkoaaAliQ
import Derived.Test.YticickjnlkbkoaaAliZ
import Derived.Test.YticickjnlkbkoaaAliT
namespace Go.Proofs.AL
open Go.RowKit
open Go.Proofs
open Go.Proofs.NP
open Go.Proofs.BT
open Go.Proofs.BL
open Go
set_option linter.unusedVariables false
set_option linter.unusedSimpArgs false
variable {n S z i : Nat} {cu ot : Nat → Int}
/-- is a place picked by a pair? -/
def phi (cu ot : Nat → Int) (p q r : Nat) : Nat := if (if (r : Int) < cu q then (q : Int) else ot q) = (p : Int) then 1 else 0
/-- how often a place came, by the first so many strings; how often any one did -/
def got (n S : Nat) (cu ot : Nat → Int) (z i p : Nat) : Nat := sum (val (phi cu ot p) n S z) i
def alls (n S z i : Nat) : Nat := sum (val (fun _ _ => 1) n S z) i
theorem sum_phi {p q : Nat} (h : 0 ≤ cu q ∧ cu q ≤ (S : Int)) : ((sum (phi cu ot p q) S : Nat) : Int) = (if q = p then cu q else 0) + (if ot q = (p : Int) then (S : Int) - cu q else 0) := by
  obtain ⟨c, hc⟩ : ∃ c : Nat, cu q = c := ⟨(cu q).toNat, by omega⟩
  obtain ⟨d, hd⟩ : ∃ d, S = c + d := ⟨S - c, by omega⟩
  have h1 : sum (phi cu ot p q) c = c * (if q = p then 1 else 0) := by
    rw [← sum_const]
    refine sum_congr (fun r hr => ?_)
    show (if (if (r : Int) < cu q then (q : Int) else ot q) = (p : Int) then 1 else 0) = _
    rw [if_pos (show (r : Int) < cu q by rw [hc]; omega)]
    by_cases e : q = p
    · rw [if_pos e, if_pos (show (q : Int) = (p : Int) by omega)]
    · rw [if_neg e, if_neg (show ¬ (q : Int) = (p : Int) by omega)]
  have h2 : sum (fun r => phi cu ot p q (c + r)) d = d * (if ot q = (p : Int) then 1 else 0) := by
    rw [← sum_const]
    refine sum_congr (fun r hr => ?_)
    show (if (if ((c + r : Nat) : Int) < cu q then (q : Int) else ot q) = (p : Int) then 1 else 0) = _
    rw [if_neg (show ¬ ((c + r : Nat) : Int) < cu q by rw [hc]; omega)]
  rw [hd, sum_add, h1, h2, hc]
  by_cases e : q = p
  · by_cases e2 : ot q = (p : Int)
    · rw [if_pos e, if_pos e2, if_pos e, if_pos e2]; omega
    · rw [if_pos e, if_neg e2, if_pos e, if_neg e2]; omega
  · by_cases e2 : ot q = (p : Int)
    · rw [if_neg e, if_pos e2, if_neg e, if_pos e2]; omega
    · rw [if_neg e, if_neg e2, if_neg e, if_neg e2]; omega
theorem sum_cols {p : Nat} (h : ∀ k, k < n → 0 ≤ cu k ∧ cu k ≤ (S : Int)) : ∀ m, m ≤ n → ((sum (fun q => sum (phi cu ot p q) S) m : Nat) : Int) = mny S cu ot p m
  | 0, _ => rfl
  | m + 1, hm => by
    rw [sum, mny, Int.natCast_add, sum_cols h m (by omega), sum_phi (h m (by omega))]
    omega
theorem evenly (hn : 0 < n) (hS : 0 < S) (h : ∀ k, k < n → 0 ≤ cu k ∧ cu k ≤ (S : Int)) {p x : Nat} (hx : mny S cu ot p n = (n : Int) * (x : Int)) : got n S cu ot z (2 ^ z) p * S = x * alls n S z (2 ^ z) := by
  obtain ⟨c, hc⟩ := two_even hn hS z
  have h1 : sum (fun q => sum (phi cu ot p q) S) n = n * x := by
    have := sum_cols (ot := ot) (p := p) h n (Nat.le_refl _)
    rw [hx] at this
    have e : ((n * x : Nat) : Int) = (n : Int) * (x : Int) := Int.natCast_mul _ _
    omega
  have h2 : sum (fun q => sum (fun _ => 1) S) n = n * S := by
    rw [sum_const, sum_const, Nat.mul_one]
  unfold got alls
  rw [hc, hc, h1, h2]
  simp only [Nat.mul_comm, Nat.mul_left_comm, Nat.mul_assoc]
theorem got_le (p : Nat) : got n S cu ot z i p ≤ i := by
  have := sum_le (val (phi cu ot p) n S z) 1 (fun j => by unfold val phi; (repeat' split) <;> first | exact Nat.le_refl _ | exact Nat.zero_le _) i
  unfold got; omega
theorem alls_le : alls n S z i ≤ i := by
  have := sum_le (val (fun _ _ => 1) n S z) 1 (fun j => by unfold val; (repeat' split) <;> first | exact Nat.le_refl _ | exact Nat.zero_le _) i
  unfold alls; omega
/-- a string draws a place, or none -/
theorem tdr_val (hn : 0 < n) (hS : 0 < S) {P : Int} {is ov : Bool} {a : Nat} (h : tdr n S cu ot (ofB i z) 0 false = (P, is, a, ov)) (φ : Nat → Nat → Nat) :
    ∃ q r, (is = true → q < n ∧ r < S ∧ P = if (r : Int) < cu q then (q : Int) else ot q) ∧ (is = false → P = 0) ∧ val φ n S z i = if is = true then φ q r else 0 := by
  unfold tdr at h
  rw [draw_first hn] at h
  simp only at h
  obtain ⟨d, hd⟩ : ∃ d, dn n z i = d := ⟨_, rfl⟩
  have hx := dn_x (m := n) (n := z) (i := i)
  have ha := dn_at n z i
  have hov : d.is = true → d.ov = false := fun h => by
    have := draw_is (s := ofB i z) (m := n) (a := 0) hn
    rw [draw_first hn, hd, h] at this
    cases hv : d.ov
    · rfl
    · rw [hv] at this; cases this
  rw [hd] at h hx ha
  rw [val_of hd]
  cases h1 : d.is with
  | false =>
    rw [if_pos h1] at h
    simp only [Prod.mk.injEq] at h
    obtain ⟨rfl, rfl, -, -⟩ := h
    exact ⟨0, 0, (fun h => Bool.noConfusion h), fun _ => rfl, by simp⟩
  | true =>
    rw [if_neg (by rw [h1]; simp), hov h1, draw_second hS ha] at h
    obtain ⟨e, he⟩ : ∃ e, dn S (z - d.at') (i % 2 ^ (z - d.at')) = e := ⟨_, rfl⟩
    have hy := dn_x (m := S) (n := z - d.at') (i := i % 2 ^ (z - d.at'))
    rw [he] at h hy ⊢
    cases h2 : e.is with
    | false =>
      rw [if_pos (show (e.up d.at').is = false from h2)] at h
      simp only [Prod.mk.injEq] at h
      obtain ⟨rfl, rfl, -, -⟩ := h
      exact ⟨0, 0, (fun h => Bool.noConfusion h), fun _ => rfl, by simp⟩
    | true =>
      rw [if_neg (by rw [show (e.up d.at').is = true from h2]; simp)] at h
      simp only [Prod.mk.injEq] at h
      obtain ⟨h3, rfl, -, -⟩ := h
      exact ⟨d.x, e.x, fun _ => ⟨hx h1, hy h2, h3.symm⟩, (fun h => Bool.noConfusion h), by simp⟩
theorem tdr_bd (hn : 0 < n) (hS : 0 < S) (ho : ∀ q, q < n → 0 ≤ ot q ∧ ot q < n) {P : Int} {is ov : Bool} {a : Nat} (h : tdr n S cu ot (ofB i z) 0 false = (P, is, a, ov)) : 0 ≤ P ∧ P < n := by
  obtain ⟨q, r, h1, h2, -⟩ := tdr_val hn hS h (fun _ _ => 0)
  cases is with
  | false => have := h2 rfl; omega
  | true =>
    obtain ⟨a1, -, a3⟩ := h1 rfl
    have := ho q a1
    rw [a3]
    split <;> omega
theorem got_no (hn : 0 < n) (hS : 0 < S) {P : Int} {ov : Bool} {a : Nat} (h : tdr n S cu ot (ofB i z) 0 false = (P, false, a, ov)) : got n S cu ot z (i + 1) = got n S cu ot z i ∧ alls n S z (i + 1) = alls n S z i := by
  constructor
  · funext p
    obtain ⟨q, r, -, -, h3⟩ := tdr_val hn hS h (phi cu ot p)
    show sum _ i + val _ n S z i = sum _ i
    rw [h3]; rfl
  · obtain ⟨q, r, -, -, h3⟩ := tdr_val hn hS h (fun _ _ => 1)
    show sum _ i + val _ n S z i = sum _ i
    rw [h3]; rfl
theorem got_yes (hn : 0 < n) (hS : 0 < S) {P : Nat} {ov : Bool} {a : Nat} (h : tdr n S cu ot (ofB i z) 0 false = ((P : Int), true, a, ov)) : got n S cu ot z (i + 1) = (fun p => if p = P then got n S cu ot z i P + 1 else got n S cu ot z i p) ∧ alls n S z (i + 1) = alls n S z i + 1 := by
  constructor
  · funext p
    obtain ⟨q, r, h1, -, h3⟩ := tdr_val hn hS h (phi cu ot p)
    obtain ⟨-, -, h4⟩ := h1 rfl
    show sum _ i + val _ n S z i = _
    rw [h3, if_pos rfl]
    have h5 : phi cu ot p q r = if p = P then 1 else 0 := by
      unfold phi
      rw [← h4]
      by_cases e : p = P
      · subst e; rw [if_pos rfl, if_pos rfl]
      · rw [if_neg e, if_neg (by omega)]
    rw [h5]
    by_cases e : p = P
    · subst e; rw [if_pos rfl, if_pos rfl]; rfl
    · rw [if_neg e, if_neg e]; rfl
  · obtain ⟨q, r, -, -, h3⟩ := tdr_val hn hS h (fun _ _ => 1)
    show sum _ i + val _ n S z i = sum _ i + 1
    rw [h3]; rfl
/-- a row of counts -/
def cnts (n : Nat) (f : Nat → Nat) : Array Value := row n (fun x => ((f x : Nat) : Int))
theorem cnts_get (f : Nat → Nat) {x : Nat} (h : x < n) : (cnts n f)[x]? = some (.int .i64 ((f x : Nat) : Int)) := row_get n _ x h
theorem cnts_set (f : Nat → Nat) {x : Nat} (v : Nat) (h : x < n) : (cnts n f).setIfInBounds x (.int .i64 (v : Int)) = cnts n (fun y => if y = x then v else f y) := by
  unfold cnts
  rw [row_set n _ x _ h]
  refine row_congr (fun y _ => ?_)
  show _ = (((if y = x then v else f y : Nat)) : Int)
  by_cases e : y = x
  · rw [if_pos e, if_pos e]
  · rw [if_neg e, if_neg e]
theorem cnts_zero (n : Nat) : Array.replicate n (Value.int .i64 0) = cnts n (fun _ => 0) := row_zero n
theorem got_zero : got n S cu ot z 0 = fun _ => 0 := rfl
end Go.Proofs.AL
