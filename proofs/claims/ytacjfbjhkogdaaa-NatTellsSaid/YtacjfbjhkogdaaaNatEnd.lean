/- What the laws NatTells, NatSums, NatProducts meet beside: spoil, Small, Bit at any place, shifts at any place. -/
import Derived.Test.YtacjfbjhkogdaaaRefI
namespace Go.Proofs.RN
open Go.RowKit
open Go.Proofs
open Go.Proofs.NP
open Go.Proofs.SL
set_option linter.unusedVariables false
set_option linter.unusedSimpArgs false

theorem Own.from' {e : TypeId} {B : Nat} {w : World} {a : Option Addr} {cap : Nat} {xs : List Nat} (h : Own e B w a cap xs) {C : Nat} (hC : C ≤ B) : ∀ k, blk a = some k → C ≤ k := by
  rcases h.cases with ⟨rfl, _⟩ | ⟨g, rfl, h1, _⟩
  · intro k hk; simp [blk] at hk
  · intro k hk; simp [blk] at hk; omega
theorem Own.apart {e e' : TypeId} {B B' : Nat} {w w' : World} {a a' : Option Addr} {cap cap' : Nat} {xs ys : List Nat} (h : Own e B w a cap xs) (h' : Own e' B' w' a' cap' ys) (hB : w.heap.size ≤ B') : ∀ g, a' = some ⟨g, 0, none⟩ → some g ≠ blk a := by
  intro g hg
  rcases h.cases with ⟨rfl, _⟩ | ⟨k, rfl, _, h1, _⟩
  · simp [blk]
  · rcases h'.cases with ⟨rfl, _⟩ | ⟨j, rfl, h2, _⟩
    · simp at hg
    · simp at hg; simp [blk]; omega

variable {w : World} {a b : Option Addr} {ca cb l k : Nat} {xs ys zs : List Nat}
theorem spoil {B : Nat} (ho : Own 34 B w a ca xs) (lx : xs.length = l) (h : l ≤ 1000000) :
    Calls Try.prog 19 #[.slice a l ca] w fun e w' => e = .returned (.tuple #[]) ∧ w.grownBy w' (blk a) := by
  subst lx
  exact (NT.spoil B a ca xs w ho h).mono fun e w' ⟨h1, h2, _⟩ => ⟨h1, h2⟩

/-- the number that Small tells, and whether there is one -/
def smN (n : Nat) : Nat := if n < 18446744073709551616 then n else 0
def smB (n : Nat) : Bool := decide (n < 18446744073709551616)
theorem small1 (hx : Rd w a ca xs) (lx : xs.length = l) (h : l ≤ 100000) (n : Nat) (z : Bool) (hn : n = smN (V xs)) (hz : z = smB (V xs)) :
    Calls Try.prog 34 #[.slice a l ca] w fun e w' => e = .returned (.tuple #[.int .u64 (n : Nat), .bool z]) ∧ w = w' := by
  subst lx
  by_cases hv : V xs < 18446744073709551616
  · obtain rfl : n = V xs := by rw [hn, smN, if_pos hv]
    obtain rfl : z = true := by rw [hz, smB]; simpa using hv
    exact NT.small_ok _ a ca xs w hx.sl (by omega) hv
  · obtain rfl : n = 0 := by rw [hn, smN, if_neg hv]
    obtain rfl : z = false := by rw [hz, smB]; simpa using hv
    exact NT.small_no _ a ca xs w hx.sl (by omega) (by omega)
theorem small2 (hx : Rd w a ca xs) (lx : xs.length = l) (h : l ≤ 100000) (n : Nat) (z : Bool) (hn : n = smN (V xs)) (hz : z = smB (V xs)) :
    Calls Try.prog 35 #[.slice a l ca] w fun e w' => e = .returned (.tuple #[.int .u64 (n : Nat), .bool z]) ∧ Kp w w' := by
  by_cases hv : V xs < 18446744073709551616
  · obtain rfl : n = V xs := by rw [hn, smN, if_pos hv]
    obtain rfl : z = true := by rw [hz, smB]; simpa using hv
    exact small_ok hx lx h _ rfl hv
  · obtain rfl : n = 0 := by rw [hn, smN, if_neg hv]
    obtain rfl : z = false := by rw [hz, smB]; simpa using hv
    exact small_no hx lx h (by omega)

/-- the bit at any place -/
def bitZ (n : Nat) (i : Int) : Bool := if i < 0 then false else (n / 2 ^ i.toNat % 2 == 1)
theorem bit1 (hx : Rd w a ca xs) (lx : xs.length = l) (i : Int) (hi : i ≤ 9223372036854775807) (z : Bool) (hz : z = bitZ (V xs) i) :
    Calls Try.prog 33 #[.slice a l ca, .int .i64 i] w fun e w' => e = .returned (.bool z) ∧ w = w' := by
  by_cases h0 : i < 0
  · obtain rfl : z = false := by rw [hz, bitZ, if_pos h0]
    exact NR.bit_no hx lx i h0
  · obtain ⟨n, rfl⟩ : ∃ n : Nat, i = n := ⟨i.toNat, by omega⟩
    rw [bitZ, if_neg h0, Int.toNat_natCast] at hz
    exact NR.bit hx lx n (by omega) z hz
theorem bit2 (hx : Rd w a ca xs) (lx : xs.length = l) (h : l ≤ 100000) (i : Int) (hi : i ≤ 9223372036854775807) (z : Bool) (hz : z = bitZ (V xs) i) :
    Calls Try.prog 40 #[.slice a l ca, .int .i64 i] w fun e w' => e = .returned (.bool z) ∧ Kp w w' := by
  by_cases h0 : i < 0
  · obtain rfl : z = false := by rw [hz, bitZ, if_pos h0]
    exact bit_no hx lx h i h0
  · obtain ⟨n, rfl⟩ : ∃ n : Nat, i = n := ⟨i.toNat, by omega⟩
    rw [bitZ, if_neg h0, Int.toNat_natCast] at hz
    exact bit hx lx h n (by omega) z hz

/-- a slice and an error -/
def GivesX (w : World) (xs : List Nat) (c : Int) (en : Ending) (w' : World) : Prop :=
  ∃ a cap, en = .returned (.tuple #[.slice a xs.length cap, .int .i64 c]) ∧ Own 34 w.heap.size w' a cap xs ∧ Below w.heap.size w w'
theorem nilX (w w' : World) (c : Int) (h : Kp w w') : GivesX w [] c (.returned (.tuple #[.slice none 0 0, .int .i64 c])) w' :=
  ⟨none, 0, rfl, ⟨Dig.nil _, World.ownsRow_nil w' _ _ _⟩, h⟩

def subL (m n : Nat) : List Nat := if m < n then [] else L (m - n)
def subE (m n : Nat) : Int := if m < n then 8 else 0
theorem sub1 (hx : Rd w a ca xs) (hy : Rd w b cb ys) (lx : xs.length = l) (ly : ys.length = k) (h : l ≤ 100000) (h' : k ≤ 100000) (c : Int) (hz : zs = subL (V xs) (V ys)) (hc : c = subE (V xs) (V ys)) :
    Calls Try.prog 17 #[.slice a l ca, .slice b k cb] w (GivesX w zs c) := by
  by_cases hv : V xs < V ys
  · obtain rfl : zs = [] := by rw [hz, subL, if_pos hv]
    obtain rfl : c = 8 := by rw [hc, subE, if_pos hv]
    refine (NR.sub_no hx hy lx ly h h' hv).mono ?_
    rintro e w' ⟨rfl, rfl⟩
    exact nilX _ _ _ (Kp.refl _)
  · rw [subL, if_neg hv] at hz
    obtain rfl : c = 0 := by rw [hc, subE, if_neg hv]
    exact NR.sub_ok hx hy lx ly h h' hz (by omega)
theorem sub2 (hx : Rd w a ca xs) (hy : Rd w b cb ys) (lx : xs.length = l) (ly : ys.length = k) (h : l ≤ 100000) (h' : k ≤ 100000) (c : Int) (hz : zs = subL (V xs) (V ys)) (hc : c = subE (V xs) (V ys)) :
    Calls Try.prog 15 #[.slice a l ca, .slice b k cb] w (GivesX w zs c) := by
  by_cases hv : V xs < V ys
  · obtain rfl : zs = [] := by rw [hz, subL, if_pos hv]
    obtain rfl : c = 8 := by rw [hc, subE, if_pos hv]
    refine (sub_no hx hy lx ly h h' hv).mono ?_
    rintro e w' ⟨rfl, hk⟩
    exact nilX _ _ _ hk
  · rw [subL, if_neg hv] at hz
    obtain rfl : c = 0 := by rw [hc, subE, if_neg hv]
    exact sub_ok hx hy lx ly h h' hz (by omega)

def shOk (n : Int) : Prop := 0 ≤ n ∧ n ≤ 65536
instance (n : Int) : Decidable (shOk n) := by unfold shOk; infer_instance
def shE (n : Int) : Int := if shOk n then 0 else 1
def shlL (m : Nat) (n : Int) : List Nat := if shOk n then L (m * 2 ^ n.toNat) else []
def shrL (m : Nat) (n : Int) : List Nat := if shOk n then L (m / 2 ^ n.toNat) else []
theorem sh_cases (n : Int) : (∃ i : Nat, n = i ∧ i ≤ 65536 ∧ shOk n) ∨ ((n < 0 ∨ 65536 < n) ∧ ¬ shOk n) := by
  by_cases h : shOk n
  · exact .inl ⟨n.toNat, by have := h.1; omega, by have := h.2; omega, h⟩
  · refine .inr ⟨?_, h⟩; unfold shOk at h; omega
theorem shl1 (hx : Rd w a ca xs) (lx : xs.length = l) (h : l ≤ 50000) (n : Int) (c : Int) (hz : zs = shlL (V xs) n) (hc : c = shE n) :
    Calls Try.prog 27 #[.slice a l ca, .int .i64 n] w (GivesX w zs c) := by
  rcases sh_cases n with ⟨i, rfl, hi, ho⟩ | ⟨hn, ho⟩
  · rw [shlL, if_pos ho, Int.toNat_natCast] at hz
    obtain rfl : c = 0 := by rw [hc, shE, if_pos ho]
    exact NR.shl_ok hx lx (by omega) i hi hz
  · obtain rfl : zs = [] := by rw [hz, shlL, if_neg ho]
    obtain rfl : c = 1 := by rw [hc, shE, if_neg ho]
    refine (NT.shl_no a l ca n w hn).mono ?_
    rintro e w' ⟨rfl, rfl⟩
    exact nilX _ _ _ (Kp.refl _)
theorem shl2 (hx : Rd w a ca xs) (lx : xs.length = l) (h : l ≤ 50000) (n : Int) (c : Int) (hz : zs = shlL (V xs) n) (hc : c = shE n) :
    Calls Try.prog 25 #[.slice a l ca, .int .i64 n] w (GivesX w zs c) := by
  rcases sh_cases n with ⟨i, rfl, hi, ho⟩ | ⟨hn, ho⟩
  · rw [shlL, if_pos ho, Int.toNat_natCast] at hz
    obtain rfl : c = 0 := by rw [hc, shE, if_pos ho]
    exact shl_ok hx lx h i hi hz
  · obtain rfl : zs = [] := by rw [hz, shlL, if_neg ho]
    obtain rfl : c = 1 := by rw [hc, shE, if_neg ho]
    refine (shl_no l n w hn).mono ?_
    rintro e w' ⟨rfl, rfl⟩
    exact nilX _ _ _ (Kp.refl _)
theorem shr1 (hx : Rd w a ca xs) (lx : xs.length = l) (h : l ≤ 50000) (n : Int) (c : Int) (hz : zs = shrL (V xs) n) (hc : c = shE n) :
    Calls Try.prog 28 #[.slice a l ca, .int .i64 n] w (GivesX w zs c) := by
  rcases sh_cases n with ⟨i, rfl, hi, ho⟩ | ⟨hn, ho⟩
  · rw [shrL, if_pos ho, Int.toNat_natCast] at hz
    obtain rfl : c = 0 := by rw [hc, shE, if_pos ho]
    exact NR.shr_ok hx lx (by omega) i hi hz
  · obtain rfl : zs = [] := by rw [hz, shrL, if_neg ho]
    obtain rfl : c = 1 := by rw [hc, shE, if_neg ho]
    refine (NT.shr_no a l ca n w hn).mono ?_
    rintro e w' ⟨rfl, rfl⟩
    exact nilX _ _ _ (Kp.refl _)
theorem shr2 (hx : Rd w a ca xs) (lx : xs.length = l) (h : l ≤ 50000) (n : Int) (c : Int) (hz : zs = shrL (V xs) n) (hc : c = shE n) :
    Calls Try.prog 26 #[.slice a l ca, .int .i64 n] w (GivesX w zs c) := by
  rcases sh_cases n with ⟨i, rfl, hi, ho⟩ | ⟨hn, ho⟩
  · rw [shrL, if_pos ho, Int.toNat_natCast] at hz
    obtain rfl : c = 0 := by rw [hc, shE, if_pos ho]
    exact shr_ok hx lx h i hi hz
  · obtain rfl : zs = [] := by rw [hz, shrL, if_neg ho]
    obtain rfl : c = 1 := by rw [hc, shE, if_neg ho]
    refine (shr_no l n w hn).mono ?_
    rintro e w' ⟨rfl, rfl⟩
    exact nilX _ _ _ (Kp.refl _)
theorem len_zero (n : Nat) : (((bitLen n : Nat) : Int) == 0) = (n == 0) := by
  rw [Bool.eq_iff_iff]
  simp
  constructor
  · intro h
    by_cases h0 : n = 0
    · exact h0
    · have := bitLen_pos _ h0; omega
  · intro h; rw [h]; rfl

theorem subL_len {m n i : Nat} (h : NR.Fits m i) : (subL m n).length ≤ i := by
  unfold subL; split
  · simp
  · exact (h.sub n).len
theorem shlL_len {m i : Nat} (h : NR.Fits m i) (n : Int) (hn : n ≤ 2000) : (shlL m n).length ≤ i + 2000 := by
  unfold shlL; split
  · have := (h.shl n.toNat).len; omega
  · simp
theorem shrL_len {m i : Nat} (h : NR.Fits m i) (n : Int) : (shrL m n).length ≤ i := by
  unfold shrL; split
  · exact (h.div _).len
  · simp
end Go.Proofs.RN
