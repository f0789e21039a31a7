/- Lesser strings: how many there are at most; the widths, as they are laid. -/
import Derived.Test.YtbmifejeffgobaaDoorCandH
import Derived.LaidMore
import Derived.Stop.Joined
import Derived.OpenShut
import Derived.Test.YtbmifejeffgobaaDoorRows
namespace Go.Proofs.CT
open Go.RowKit
open Go.Proofs
open Go.Proofs.BT
open Go
open Go.ChangeShapes Go.WideShapes Go.ChangeAt Go.WideMaps Go.WideElems
set_option linter.unusedVariables false
set_option linter.unusedSimpArgs false
theorem rem_len (f : ByteArray → Nat → Nat → ByteArray) (u : ByteArray) (n : Nat) : ∀ c a, (rem f u n a c).length ≤ c
  | 0, a => by simp [rem]
  | c + 1, a => by
    have := rem_len f u n c (a + 1)
    rw [rem, List.length_append]
    split <;> simp <;> omega
theorem downs_len (u : ByteArray) : ∀ c a, (downs u a c).length ≤ c
  | 0, a => by simp [downs]
  | c + 1, a => by
    have := downs_len u c (a + 1)
    rw [downs, List.length_append]
    split
    · split <;> simp <;> omega
    · simp; omega
theorem partJ_len (f : ByteArray → Nat → Nat → ByteArray) (u : ByteArray) : (partJ f u 0).length ≤ 4 * u.size := by
  have h8 := rem_len f u 8 (u.size + 1 - 8) 0
  have h4 := rem_len f u 4 (u.size + 1 - 4) 0
  have h2 := rem_len f u 2 (u.size + 1 - 2) 0
  have h1 := rem_len f u 1 (u.size + 1 - 1) 0
  simp only [partJ, partN, List.length_append]
  omega
theorem cands_nine (u : ByteArray) : (cands u).length ≤ 9 * u.size := by
  unfold cands
  split
  · have h1 := partJ_len cutB u
    have h2 := partJ_len clearB u
    have h3 := downs_len u u.size 0
    simp only [List.length_append]
    omega
  · simp
theorem cands_len (u : ByteArray) (h : u.size ≤ 500) : (cands u).length ≤ 5000 := by
  have := cands_nine u; omega
theorem take_one {cs : Array Value} {j : Nat} {x : Value} (h : (cs.toList.drop (j * 1)).take 1 = [x]) : cs[j]? = some x := by
  rw [Nat.mul_one] at h
  have e : cs[j]? = cs.toList[j]? := by simp
  rw [e]
  have := congrArg (fun l => l[0]?) h
  simpa using this
/-- what the row's list of variables gives -/
theorem of_laid {W : World} (h : laidMetH Tryd.prog YtbmifejeffgobaaDoor.Rows.candTellsRow.laid W) : wide4 W := by
  rw [MakeChecks.laidMetH_plain _ _ _ (by kernel_rfl)] at h
  obtain ⟨ps, ⟨g0, t0, cs0, f0, p0, q0, hg0, ht0, hv0, hd0, _, _⟩, _, _⟩ := h
  obtain rfl : 0 = g0 := Option.some.inj ((show some 0 = _ by kernel_rfl).trans hg0)
  obtain rfl : 52 = t0 := Option.some.inj ((show some 52 = _ by kernel_rfl).trans ht0)
  obtain ⟨xs, m1, rfl, hx1, hlen, hn3, hel⟩ := DataW.trod_array Tryd.underlying52 hd0
  have c3 : Tryd.prog.cellsOf 3 = 1 := by kernel_rfl
  have c52 : Tryd.prog.cellsOf 52 = 4 := by kernel_rfl
  have e0 := hel 0 (by decide)
  have e1 := hel 1 (by decide)
  have e2 := hel 2 (by decide)
  have e3 := hel 3 (by decide)
  simp only [Prod.mk.injEq] at hx1
  match xs, hn3, hx1, e0, e1, e2, e3 with
  | [x0, x1, x2, x3], _, hx1, e0, e1, e2, e3 =>
    obtain ⟨k0, a0, b0, _⟩ := DataW.trod_int Tryd.underlying3 (show DataW.trod _ Tryd.prog W 0 _ false m1 3 _ = some x0 from e0)
    obtain ⟨k1, a1, b1, _⟩ := DataW.trod_int Tryd.underlying3 (show DataW.trod _ Tryd.prog W 0 _ false m1 3 _ = some x1 from e1)
    obtain ⟨k2, a2, b2, _⟩ := DataW.trod_int Tryd.underlying3 (show DataW.trod _ Tryd.prog W 0 _ false m1 3 _ = some x2 from e2)
    obtain ⟨k3, a3, b3, _⟩ := DataW.trod_int Tryd.underlying3 (show DataW.trod _ Tryd.prog W 0 _ false m1 3 _ = some x3 from e3)
    have v0 := World.var?_cell hg0 hv0 0
    have v1 := World.var?_cell hg0 hv0 1
    have v2 := World.var?_cell hg0 hv0 2
    have v3 := World.var?_cell hg0 hv0 3
    subst b0 b1 b2 b3
    have hh := hx1.1
    simp only [YtbmifejeffgobaaDoor.Rows.laid_tombola_cand_widths, List.map_cons, List.map_nil, DataW.agg.injEq, List.cons.injEq, DataW.lit.injEq, Lit.int.injEq, true_and, and_true] at hh
    obtain ⟨h0, h1, h2, h3⟩ := hh
    subst h0 h1 h2 h3
    rw [c3] at a0 a1 a2 a3
    exact ⟨v0.trans (take_one a0), v1.trans (take_one a1), v2.trans (take_one a2), v3.trans (take_one a3)⟩
end Go.Proofs.CT
