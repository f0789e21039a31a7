/- Alias tables: a draw: of any cursor. -/
import Derived.Test.YticickjnlkbkoaaAliG
import Derived.Test.YticickjnlkbkoaaBelC
namespace Go.Proofs.AL
open Go.RowKit
open Go.Proofs
open Go.Proofs.NP
open Go.Proofs.SL
open Go.Proofs.RA
open Go.Proofs.BL
open Go.Proofs.BT
open Go
set_option linter.unusedVariables false
set_option linter.unusedSimpArgs false
set_option maxRecDepth 20000
variable {w : World} {g gc go n : Nat} {cu ot : Nat → Int}
theorem Tb.kept {W W' : World} {s : Int} {b : Nat} (h : Tb W g gc go n s cu ot) (hg : W.grownBy W' (some b)) (h1 : g ≠ b) (h2 : gc ≠ b) (h3 : go ≠ b) : Tb W' g gc go n s cu ot :=
  ⟨(hg.block _ h.tb.lt (by simp; exact h1)).trans h.tb, (hg.block _ h.cb.lt (by simp; exact h2)).trans h.cb, (hg.block _ h.ob.lt (by simp; exact h3)).trans h.ob⟩
/-- what is drawn by a table: the place, whether there is one, where the cursor stands then, whether it is over -/
def tdr (n S : Nat) (cu ot : Nat → Int) (s : ByteArray) (a : Nat) (o : Bool) : Int × Bool × Nat × Bool :=
  let d := draw s n a o
  if d.is = false then (0, false, d.at', d.ov) else
    let e := draw s S d.at' d.ov
    if e.is = false then (0, false, e.at', e.ov) else (if (e.x : Int) < cu d.x then (d.x : Int) else ot d.x, true, e.at', e.ov)
set_option maxHeartbeats 2000000 in
theorem tdraw (S b a : Nat) (s : ByteArray) (o : Bool) (h : Tb w g gc go n (S : Int) cu ot) (hn : 1 ≤ n ∧ n ≤ 64) (hS : 1 ≤ S ∧ S ≤ 67108864) (hc : Cp w b s a o) (hne : g ≠ b ∧ gc ≠ b ∧ go ≠ b) (ha : a ≤ s.size) (hs : s.size ≤ 4294967296) (hb : BT.bits s = true)
    (p : Int) (is : Bool) (at' : Nat) (ov : Bool) (hR : tdr n S cu ot s a o = (p, is, at', ov)) :
    Calls Try.prog 28 #[.pointer (some ⟨g, 0, none⟩), .pointer (some ⟨b, 0, none⟩)] w fun e w' => e = .returned (.tuple #[.int .i64 p, .bool is]) ∧ Cp w' b s at' ov ∧ w.grownBy w' (some b) := by
  obtain ⟨d, hd⟩ : ∃ d, d = draw s n a o := ⟨_, rfl⟩
  have D1 := Lib.hid (draw1 b a n s o w hc ha hs hb (by omega) d hd)
  have hdx : d.is = true → d.x < n := by
    rw [hd, draw]; split
    · intro h; cases h
    · exact drw_is.2.1
  have hda : d.at' ≤ s.size := by
    rw [hd, draw]; split
    · exact ha
    · exact (drw_le ha).2
  obtain ⟨e, he⟩ : ∃ e, e = draw s S d.at' d.ov := ⟨_, rfl⟩
  have D2 := Lib.hid (fun (W : World) (h : Cp W b s d.at' d.ov) => draw1 b d.at' S s d.ov W h hda hs hb (by omega) e he)
  have hex : e.is = true → e.x < S := by
    rw [he, draw]; split
    · intro h; cases h
    · exact drw_is.2.1
  have hR2 : (if d.is = false then (0, false, d.at', d.ov) else if e.is = false then (0, false, e.at', e.ov) else (if (e.x : Int) < cu d.x then (d.x : Int) else ot d.x, true, e.at', e.ov)) = (p, is, at', ov) := by rw [← hR, tdr, ← hd, ← he]
  have HT := Lib.hid h
  have HNE := Lib.hid hne
  have hw1 : IntKind.u64.wrap (n : Int) = (n : Int) := W.wrapN _ (by omega)
  have hw2 : IntKind.u64.wrap (S : Int) = (S : Int) := W.wrapN _ (by omega)
  have A0 := Lib.hid (show Calls Try.prog 41 #[.pointer (some ⟨g, 0, none⟩), .int .i64 0] w (fun e w' => e = .returned (.int .i64 0) ∧ w = w') from at1 0 h (by omega) 0 (by rw [atE, if_pos (by omega)]))
  have c1 := h.tb.c 1
  have hnn : n < 18446744073709551616 := by omega
  obtain ⟨dx, dis, dat, dov⟩ := d
  obtain ⟨ex, eis, eat, eov⟩ := e
  simp only at hR2 D1 D2 hdx hex
  clear hR hd he hne hda h hc ha hs hb
  go_enter Try.func28, Try.ntmps28
  go_wp2_with fail
  refine A0.out.mono ?_; rintro e w' ⟨rfl, rfl⟩
  go_wp2_with fail
  refine D1.out.mono ?_; rintro e W1 ⟨rfl, hc1, hg1⟩
  have HT1 := Lib.hid (HT.out.kept hg1 HNE.out.1 HNE.out.2.1 HNE.out.2.2)
  have HG1 := Lib.hid hg1
  have HC1 := Lib.hid hc1
  clear A0 D1 c1 hc1 hg1 HT
  simp only at HC1 ⊢
  have c0 := HT1.out.tb.c 0
  cases dis
  · obtain ⟨rfl, rfl, rfl, rfl⟩ : 0 = p ∧ false = is ∧ dat = at' ∧ dov = ov := by simpa using hR2
    clear hR2
    go_wp2_with fail
    go_ret2
    exact ⟨rfl, HC1.out, HG1.out⟩
  · have hdx' := hdx rfl
    clear hdx
    go_wp2_with fail
    refine (D2.out _ HC1.out).mono ?_; rintro e W2 ⟨rfl, hc2, hg2⟩
    have HT2 := Lib.hid (HT1.out.kept hg2 HNE.out.1 HNE.out.2.1 HNE.out.2.2)
    have HC2 := Lib.hid hc2
    have HG2 := Lib.hid (show w.grownBy W2 (some b) from World.grownBy.trans HG1.out hg2)
    clear D2 hc2 hg2 HT1 HC1 HG1 c0
    simp only at HC2 ⊢
    cases eis
    · obtain ⟨rfl, rfl, rfl, rfl⟩ : 0 = p ∧ false = is ∧ eat = at' ∧ eov = ov := by simpa using hR2
      clear hR2
      go_wp2_with fail
      go_ret2
      exact ⟨rfl, HC2.out, HG2.out⟩
    · obtain ⟨hp, rfl, rfl, rfl⟩ : (if (ex : Int) < cu dx then (dx : Int) else ot dx) = p ∧ true = is ∧ eat = at' ∧ eov = ov := by simpa using hR2
      have hex' := hex rfl
      have PK := Lib.hid (pick1 dx (ex : Int) HT2.out (by omega) hdx' hn.2 (by omega) (by omega) p hp.symm)
      have hw3 : IntKind.i64.wrap (dx : Int) = (dx : Int) := by rw [IntKind.wrap_i64]; omega
      have hw4 : IntKind.i64.wrap (ex : Int) = (ex : Int) := by rw [IntKind.wrap_i64]; omega
      clear hR2 hex hp
      go_wp2_with fail
      refine PK.out.mono ?_; rintro e w' ⟨rfl, rfl⟩
      go_wp2_with fail
      go_ret2
      exact ⟨rfl, HC2.out, HG2.out⟩
end Go.Proofs.AL
