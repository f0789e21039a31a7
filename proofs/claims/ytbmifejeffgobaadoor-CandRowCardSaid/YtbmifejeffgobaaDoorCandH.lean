/- Lesser strings: the examples that every statement asks: awake answers true. -/
import Derived.Test.YtbmifejeffgobaaDoorCandG
namespace Go.Proofs.CT
open Go.RowKit
open Go.Proofs
open Go.Proofs.BT
open Go.Proofs.RO
open Go
set_option linter.unusedVariables false
set_option linter.unusedSimpArgs false
/-- a slice of n texts, as the walk meets it -/
def GivesS (L : List ByteArray) (n : Nat) (w : World) (e : Ending) (w' : World) : Prop := ∃ a cap, e = .returned (.slice a n cap) ∧ Reads w' (.slice a n cap) L ∧ Below w.heap.size w w'
theorem gives_of {L : List ByteArray} {w : World} {e : Ending} {w' : World} {n : Nat} (h : toldPost L w e w') (hl : L.length ≤ 100000) (hn : n = L.length) : GivesS L n w e w' := by
  obtain ⟨v, rfl, ho, hb⟩ := h
  have hr := reads_owns ho hl
  have hr' := hr
  obtain ⟨_, a, cap, rfl, _⟩ := hr'
  subst hn
  exact ⟨a, cap, rfl, hr, hb⟩
theorem told_gives (u : ByteArray) (hs : u.size ≤ 4294967296) (L : List ByteArray) (most : Nat) (hm : 1 ≤ most) (hm2 : most ≤ 100000) (hlen : (cands u).length ≤ 100000) (hL : L = (cands u).take most) (n : Nat) (hn : n = L.length) (z : Int) (hz : z = most) (w : World) (hw : wide4 w) :
    Calls Tryd.prog 12 #[.string u, .int .i64 z] w (GivesS L n w) := by
  subst hz; subst hL
  exact (told_any u hs hlen most hm hm2 w hw).mono fun e w' h => gives_of h (by rw [List.length_take]; omega) hn
theorem ref_gives (u : ByteArray) (hs : u.size ≤ 4294967296) (L : List ByteArray) (hlen : (cands u).length ≤ 100000) (hL : L = cands u) (n : Nat) (hn : n = L.length) (w : World) :
    Calls Tryd.prog 10 #[.string u] w (GivesS L n w) := by
  subst hL
  exact (ref_each u hs hlen w).mono fun e w' h => gives_of h hlen hn
/-- the same texts, with what is known of the worlds -/
theorem same_below (A B : List ByteArray) (va vb : Value) (w : World) (ha : Reads w va A) (hb : Reads w vb B) (z : Bool) (hz : z = decide (A = B)) :
    Calls Tryd.prog 11 #[va, vb] w fun e w' => e = .returned (.bool z) ∧ Below w.heap.size w w' :=
  (same_any A B va vb w ha hb z hz).mono fun e w' ⟨h, n, h2⟩ => ⟨h, by rw [← h2]; exact below_drewN (Below.refl _ _) n⟩
theorem c10 : cands ⟨#[49, 48]⟩ = [⟨#[]⟩, ⟨#[48]⟩, ⟨#[49]⟩, ⟨#[48, 48]⟩, ⟨#[48, 48]⟩, ⟨#[48, 49]⟩] := by decide +kernel
theorem c00 : cands ⟨#[48, 48]⟩ = [⟨#[]⟩, ⟨#[48]⟩, ⟨#[48]⟩] := by decide +kernel
theorem c1 : cands ⟨#[49]⟩ = [⟨#[]⟩, ⟨#[48]⟩, ⟨#[48]⟩] := by decide +kernel
theorem c0 : cands ⟨#[]⟩ = [] := by decide +kernel
set_option maxHeartbeats 4000000 in
set_option maxRecDepth 100000 in
theorem awake (w : World) (hw : wide4 w) : Calls Tryd.prog 9 #[] w fun e w' => e = .returned (.bool true) ∧ Below w.heap.size w w' := by
  have K : Below w.heap.size w w := Below.refl _ _
  go_enter Tryd.func9, Tryd.ntmps9
  go_wp2_with fail
  refine (told_gives ⟨#[49, 48]⟩ (by decide) [⟨#[]⟩, ⟨#[48]⟩, ⟨#[49]⟩, ⟨#[48, 48]⟩, ⟨#[48, 48]⟩, ⟨#[48, 49]⟩] 99 (by decide) (by decide) (by rw [c10]; decide) (by rw [c10]; rfl) 6 rfl _ rfl _ hw).mono ?_
  rintro e w1 ⟨a1, cap1, rfl, R, hb⟩
  replace K : Below w.heap.size w w1 := K.trans (hb.mono K.size)
  replace hw := hw.below hb
  clear hb
  go_wp2_with fail
  have b0 := (Below.refl w1.heap.size w1).alloc (Nat.le_refl _) (.cells #[.string ⟨#[]⟩, .string ⟨#[48]⟩, .string ⟨#[49]⟩, .string ⟨#[48, 48]⟩, .string ⟨#[48, 48]⟩, .string ⟨#[48, 49]⟩] 9)
  replace K := K.trans (b0.mono K.size)
  replace hw := hw.below b0
  refine (same_below [⟨#[]⟩, ⟨#[48]⟩, ⟨#[49]⟩, ⟨#[48, 48]⟩, ⟨#[48, 48]⟩, ⟨#[48, 49]⟩] [⟨#[]⟩, ⟨#[48]⟩, ⟨#[49]⟩, ⟨#[48, 48]⟩, ⟨#[48, 48]⟩, ⟨#[48, 49]⟩] _ _ _ (R.later b0) (reads_lit _ [⟨#[]⟩, ⟨#[48]⟩, ⟨#[49]⟩, ⟨#[48, 48]⟩, ⟨#[48, 48]⟩, ⟨#[48, 49]⟩] (by decide) _ _ rfl _ rfl) true (by simp)).mono ?_
  rintro e w2 ⟨rfl, hb⟩
  replace K : Below w.heap.size w w2 := K.trans (hb.mono K.size)
  replace hw := hw.below hb
  clear hb b0 R
  go_wp2_with fail
  refine (told_gives ⟨#[48, 48]⟩ (by decide) [⟨#[]⟩, ⟨#[48]⟩, ⟨#[48]⟩] 99 (by decide) (by decide) (by rw [c00]; decide) (by rw [c00]; rfl) 3 rfl _ rfl _ hw).mono ?_
  rintro e w3 ⟨a3, cap3, rfl, R, hb⟩
  replace K : Below w.heap.size w w3 := K.trans (hb.mono K.size)
  replace hw := hw.below hb
  clear hb
  go_wp2_with fail
  have b0 := (Below.refl w3.heap.size w3).alloc (Nat.le_refl _) (.cells #[.string ⟨#[]⟩, .string ⟨#[48]⟩, .string ⟨#[48]⟩] 9)
  replace K := K.trans (b0.mono K.size)
  replace hw := hw.below b0
  refine (same_below [⟨#[]⟩, ⟨#[48]⟩, ⟨#[48]⟩] [⟨#[]⟩, ⟨#[48]⟩, ⟨#[48]⟩] _ _ _ (R.later b0) (reads_lit _ [⟨#[]⟩, ⟨#[48]⟩, ⟨#[48]⟩] (by decide) _ _ rfl _ rfl) true (by simp)).mono ?_
  rintro e w4 ⟨rfl, hb⟩
  replace K : Below w.heap.size w w4 := K.trans (hb.mono K.size)
  replace hw := hw.below hb
  clear hb b0 R
  go_wp2_with fail
  refine (told_gives ⟨#[49]⟩ (by decide) [⟨#[]⟩, ⟨#[48]⟩, ⟨#[48]⟩] 99 (by decide) (by decide) (by rw [c1]; decide) (by rw [c1]; rfl) 3 rfl _ rfl _ hw).mono ?_
  rintro e w5 ⟨a5, cap5, rfl, R, hb⟩
  replace K : Below w.heap.size w w5 := K.trans (hb.mono K.size)
  replace hw := hw.below hb
  clear hb
  go_wp2_with fail
  have b0 := (Below.refl w5.heap.size w5).alloc (Nat.le_refl _) (.cells #[.string ⟨#[]⟩, .string ⟨#[48]⟩, .string ⟨#[48]⟩] 9)
  replace K := K.trans (b0.mono K.size)
  replace hw := hw.below b0
  refine (same_below [⟨#[]⟩, ⟨#[48]⟩, ⟨#[48]⟩] [⟨#[]⟩, ⟨#[48]⟩, ⟨#[48]⟩] _ _ _ (R.later b0) (reads_lit _ [⟨#[]⟩, ⟨#[48]⟩, ⟨#[48]⟩] (by decide) _ _ rfl _ rfl) true (by simp)).mono ?_
  rintro e w6 ⟨rfl, hb⟩
  replace K : Below w.heap.size w w6 := K.trans (hb.mono K.size)
  replace hw := hw.below hb
  clear hb b0 R
  go_wp2_with fail
  refine (told_gives ⟨#[]⟩ (by decide) [] 99 (by decide) (by decide) (by rw [c0]; decide) (by rw [c0]; rfl) 0 rfl _ rfl _ hw).mono ?_
  rintro e w7 ⟨a7, cap7, rfl, R, hb⟩
  replace K : Below w.heap.size w w7 := K.trans (hb.mono K.size)
  replace hw := hw.below hb
  clear hb
  go_wp2_with fail
  refine (count_any ⟨#[49, 48]⟩ (by decide) (by rw [c10]; decide) _ hw 6 (by rw [c10]; rfl)).mono ?_
  rintro e w8 ⟨rfl, hb⟩
  replace K : Below w.heap.size w w8 := K.trans (hb.mono K.size)
  replace hw := hw.below hb
  clear hb
  go_wp2_with fail
  go_ret
  exact ⟨rfl, K⟩
end Go.Proofs.CT
