/- Alias tables: in memory; its methods. -/
import Derived.Test.YticickjnlkbkoaaGreatRatC
import Derived.Test.YticickjnlkbkoaaGreatBelP
namespace Go.Proofs.AL
open Go.RowKit
open Go.Proofs
open Go.Proofs.NP
open Go.Proofs.SL
open Go.Proofs.RA
open Go.Proofs.BL
open Go
set_option linter.unusedVariables false
set_option linter.unusedSimpArgs false
set_option maxRecDepth 20000
/-- a row of n numbers -/
def row (n : Nat) (f : Nat → Int) : Array Value := ((List.range n).map fun x => Value.int .i64 (f x)).toArray
theorem row_size (n : Nat) (f : Nat → Int) : (row n f).size = n := by simp [row]
theorem row_get (n : Nat) (f : Nat → Int) (x : Nat) (h : x < n) : (row n f)[x]? = some (.int .i64 (f x)) := by simp [row, h]
theorem row_set (n : Nat) (f : Nat → Int) (x : Nat) (v : Int) (h : x < n) : (row n f).setIfInBounds x (.int .i64 v) = row n (fun y => if y = x then v else f y) := by
  apply Array.ext'
  apply List.ext_getElem?
  intro i
  simp only [row, List.setIfInBounds_toArray, List.getElem?_set, List.length_map, List.length_range, List.getElem?_map]
  by_cases e : x = i
  · subst e
    rw [if_pos rfl, if_pos h]
    simp [h]
  · rw [if_neg e]
    by_cases hi : i < n
    · simp [hi, show ¬ i = x from fun h => e h.symm]
    · simp [hi]
theorem row_congr {n : Nat} {f g : Nat → Int} (h : ∀ x, x < n → f x = g x) : row n f = row n g := by
  unfold row
  congr 1
  refine List.map_congr_left (fun x hx => ?_)
  rw [h x (by simpa using hx)]
theorem row_zero (n : Nat) : (Array.replicate n (Value.int .i64 0)) = row n (fun _ => 0) := by
  apply Array.ext'
  simp [row, List.map_const']
/-- an alias table: its block, its cuts' and its others' -/
structure Tb (W : World) (g gc go n : Nat) (s : Int) (cu ot : Nat → Int) : Prop where
  tb : Bk W g #[.int .i64 s, .slice (some ⟨gc, 0, none⟩) n n, .slice (some ⟨go, 0, none⟩) n n] 38
  cb : Bk W gc (row n cu) 2
  ob : Bk W go (row n ot) 3
theorem Tb.nx {W W' : World} {g gc go n : Nat} {s : Int} {cu ot : Nat → Int} (h : Tb W g gc go n s cu ot) (hk : Kp W W') : Tb W' g gc go n s cu ot := ⟨h.tb.nx hk, h.cb.nx hk, h.ob.nx hk⟩
theorem Tb.dr {W : World} {g gc go n : Nat} {s : Int} {cu ot : Nat → Int} (h : Tb W g gc go n s cu ot) (q : Nat) : Tb (W.drewN q) g gc go n s cu ot := h.nx ((Kp.refl W).dr q)
variable {w : World} {g gc go n : Nat} {s : Int} {cu ot : Nat → Int}
/-- the place's error -/
def atE (n : Nat) (i : Int) : Int := if 0 ≤ i ∧ i < n then 0 else 1
theorem len1 (h : Tb w g gc go n s cu ot) : Calls Tryz.prog 12 #[.pointer (some ⟨g, 0, none⟩)] w fun e w' => e = .returned (.int .i64 (n : Int)) ∧ w = w' := by
  have c1 := h.tb.c 1
  clear h
  go_enter Tryz.func12, Tryz.ntmps12
  go_wp2_with fail
  go_ret
  exact ⟨rfl, rfl⟩
theorem sum1 (h : Tb w g gc go n s cu ot) : Calls Tryz.prog 13 #[.pointer (some ⟨g, 0, none⟩)] w fun e w' => e = .returned (.int .i64 s) ∧ w = w' := by
  have c0 := h.tb.c 0
  clear h
  go_enter Tryz.func13, Tryz.ntmps13
  go_wp2_with fail
  go_ret
  exact ⟨rfl, rfl⟩
theorem at1 (i : Int) (h : Tb w g gc go n s cu ot) (hs : s ≠ 0) (e0 : Int) (he : e0 = atE n i) : Calls Tryz.prog 23 #[.pointer (some ⟨g, 0, none⟩), .int .i64 i] w fun e w' => e = .returned (.int .i64 e0) ∧ w = w' := by
  have c0 := h.tb.c 0
  have c1 := h.tb.c 1
  have hs' : (s == 0) = false := by rw [beq_eq_false_iff_ne]; exact hs
  clear h
  by_cases h0 : i < 0
  · obtain rfl : e0 = 1 := by rw [he, atE, if_neg (by omega)]
    clear he
    go_enter Tryz.func23, Tryz.ntmps23
    go_wp2_with fail
    go_ret
    exact ⟨rfl, rfl⟩
  · by_cases h1 : (n : Int) ≤ i
    · obtain rfl : e0 = 1 := by rw [he, atE, if_neg (by omega)]
      clear he
      have h0' : ¬ (i < 0) := h0
      go_enter Tryz.func23, Tryz.ntmps23
      go_wp2_with fail
      go_ret
      exact ⟨rfl, rfl⟩
    · obtain rfl : e0 = 0 := by rw [he, atE, if_pos (by omega)]
      clear he
      have h0' : ¬ (i < 0) := h0
      go_enter Tryz.func23, Tryz.ntmps23
      go_wp2_with fail
      go_ret
      exact ⟨rfl, rfl⟩
theorem cut1 (i : Nat) (h : Tb w g gc go n s cu ot) (hs : s ≠ 0) (hi : i < n) (hn : n ≤ 64) : Calls Tryz.prog 6 #[.pointer (some ⟨g, 0, none⟩), .int .i64 (i : Int)] w fun e w' => e = .returned (.tuple #[.int .i64 (cu i), .int .i64 0]) ∧ w = w' := by
  have HA := Lib.hid (at1 (i : Int) h hs 0 (by rw [atE, if_pos (by omega)]))
  have c1 := h.tb.c 1
  have cx := (h.cb.c i).trans (row_get n cu i hi)
  have hi2 : (i : Int) < (n : Int) := by omega
  have hi3 : (0 : Int) ≤ (i : Int) := by omega
  clear h
  go_enter Tryz.func6, Tryz.ntmps6
  go_wp2_with fail
  refine HA.out.mono ?_; rintro e w' ⟨rfl, rfl⟩
  clear HA
  go_wp2_with fail
  go_ret2
  exact ⟨rfl, rfl⟩
theorem cut_no (i : Int) (h : Tb w g gc go n s cu ot) (hs : s ≠ 0) (hi : ¬ (0 ≤ i ∧ i < n)) : Calls Tryz.prog 6 #[.pointer (some ⟨g, 0, none⟩), .int .i64 i] w fun e w' => e = .returned (.tuple #[.int .i64 0, .int .i64 1]) ∧ w = w' := by
  have HA := Lib.hid (at1 i h hs 1 (by rw [atE, if_neg hi]))
  clear h hi
  go_enter Tryz.func6, Tryz.ntmps6
  go_wp2_with fail
  refine HA.out.mono ?_; rintro e w' ⟨rfl, rfl⟩
  clear HA
  go_wp2_with fail
  go_ret2
  exact ⟨rfl, rfl⟩
theorem other1 (i : Nat) (h : Tb w g gc go n s cu ot) (hs : s ≠ 0) (hi : i < n) (hn : n ≤ 64) : Calls Tryz.prog 7 #[.pointer (some ⟨g, 0, none⟩), .int .i64 (i : Int)] w fun e w' => e = .returned (.tuple #[.int .i64 (ot i), .int .i64 0]) ∧ w = w' := by
  have HA := Lib.hid (at1 (i : Int) h hs 0 (by rw [atE, if_pos (by omega)]))
  have c1 := h.tb.c 2
  have cx := (h.ob.c i).trans (row_get n ot i hi)
  have hi2 : (i : Int) < (n : Int) := by omega
  have hi3 : (0 : Int) ≤ (i : Int) := by omega
  clear h
  go_enter Tryz.func7, Tryz.ntmps7
  go_wp2_with fail
  refine HA.out.mono ?_; rintro e w' ⟨rfl, rfl⟩
  clear HA
  go_wp2_with fail
  go_ret2
  exact ⟨rfl, rfl⟩
theorem other_no (i : Int) (h : Tb w g gc go n s cu ot) (hs : s ≠ 0) (hi : ¬ (0 ≤ i ∧ i < n)) : Calls Tryz.prog 7 #[.pointer (some ⟨g, 0, none⟩), .int .i64 i] w fun e w' => e = .returned (.tuple #[.int .i64 0, .int .i64 1]) ∧ w = w' := by
  have HA := Lib.hid (at1 i h hs 1 (by rw [atE, if_neg hi]))
  clear h hi
  go_enter Tryz.func7, Tryz.ntmps7
  go_wp2_with fail
  refine HA.out.mono ?_; rintro e w' ⟨rfl, rfl⟩
  clear HA
  go_wp2_with fail
  go_ret2
  exact ⟨rfl, rfl⟩
theorem pick1 (i : Nat) (r : Int) (h : Tb w g gc go n s cu ot) (hs : s ≠ 0) (hi : i < n) (hn : n ≤ 64) (hr0 : 0 ≤ r) (hr : r < s) (p : Int) (hp : p = if r < cu i then (i : Int) else ot i) : Calls Tryz.prog 9 #[.pointer (some ⟨g, 0, none⟩), .int .i64 (i : Int), .int .i64 r] w fun e w' => e = .returned (.tuple #[.int .i64 p, .int .i64 0]) ∧ w = w' := by
  have HA := Lib.hid (at1 (i : Int) h hs 0 (by rw [atE, if_pos (by omega)]))
  have c0 := h.tb.c 0
  have c1 := h.tb.c 1
  have c2 := h.tb.c 2
  have cx := (h.cb.c i).trans (row_get n cu i hi)
  have cy := (h.ob.c i).trans (row_get n ot i hi)
  have hi2 : (i : Int) < (n : Int) := by omega
  have hi3 : (0 : Int) ≤ (i : Int) := by omega
  have hr1 : ¬ (r < 0) := by omega
  have hr2 : ¬ (s ≤ r) := by omega
  generalize cu i = ci at *
  generalize ot i = oi at *
  clear h
  by_cases hc : r < ci
  · obtain rfl : p = (i : Int) := by rw [hp, if_pos hc]
    clear hp
    go_enter Tryz.func9, Tryz.ntmps9
    go_wp2_with fail
    refine HA.out.mono ?_; rintro e w' ⟨rfl, rfl⟩
    clear HA
    go_wp2_with fail
    go_ret2
    exact ⟨rfl, rfl⟩
  · obtain rfl : p = oi := by rw [hp, if_neg hc]
    clear hp
    go_enter Tryz.func9, Tryz.ntmps9
    go_wp2_with fail
    refine HA.out.mono ?_; rintro e w' ⟨rfl, rfl⟩
    clear HA
    go_wp2_with fail
    go_ret2
    exact ⟨rfl, rfl⟩
theorem pick_no (i r : Int) (h : Tb w g gc go n s cu ot) (hs : s ≠ 0) (hi : ¬ (0 ≤ i ∧ i < n ∧ 0 ≤ r ∧ r < s)) : Calls Tryz.prog 9 #[.pointer (some ⟨g, 0, none⟩), .int .i64 i, .int .i64 r] w fun e w' => e = .returned (.tuple #[.int .i64 0, .int .i64 1]) ∧ w = w' := by
  have c0 := h.tb.c 0
  by_cases h1 : 0 ≤ i ∧ i < n
  · have HA := Lib.hid (at1 i h hs 0 (by rw [atE, if_pos h1]))
    by_cases h2 : r < 0
    · clear h hi h1
      go_enter Tryz.func9, Tryz.ntmps9
      go_wp2_with fail
      refine HA.out.mono ?_; rintro e w' ⟨rfl, rfl⟩
      clear HA
      go_wp2_with fail
      go_ret2
      exact ⟨rfl, rfl⟩
    · have h3 : s ≤ r := by omega
      clear h hi h1
      go_enter Tryz.func9, Tryz.ntmps9
      go_wp2_with fail
      refine HA.out.mono ?_; rintro e w' ⟨rfl, rfl⟩
      clear HA
      go_wp2_with fail
      go_ret2
      exact ⟨rfl, rfl⟩
  · have HA := Lib.hid (at1 i h hs 1 (by rw [atE, if_neg h1]))
    clear h hi h1
    go_enter Tryz.func9, Tryz.ntmps9
    go_wp2_with fail
    refine HA.out.mono ?_; rintro e w' ⟨rfl, rfl⟩
    clear HA
    go_wp2_with fail
    go_ret2
    exact ⟨rfl, rfl⟩
end Go.Proofs.AL
