/- Lesser strings: the shorter ones come first; the first of all. -/
import Derived.Test.YtbmifejeffgobaaDoorCandL
namespace Go.Proofs.CT
open Go.RowKit
open Go.Proofs
open Go.Proofs.BT
open Go
set_option linter.unusedVariables false
set_option linter.unusedSimpArgs false
theorem cands_two (u : ByteArray) : ∃ C E, cands u = C ++ E ∧ (∀ x ∈ C, x.size < u.size) ∧ ∀ x ∈ E, x.size = u.size := by
  by_cases hb : isB u = true
  · refine ⟨partJ cutB u 0, partJ clearB u 0 ++ downs u 0 u.size, by rw [cands, if_pos hb], fun x hx => ?_, fun x hx => ?_⟩
    · obtain ⟨i, n, h1, h2, rfl, _⟩ := partJ_mem hx
      have := congrArg List.length (bl_cut u i n)
      rw [bl_size, List.length_append, List.length_take, List.length_drop, bl_size] at this
      omega
    · rcases List.mem_append.1 hx with h | h
      · obtain ⟨i, n, h1, h2, rfl, _⟩ := partJ_mem h
        exact clear_size h2
      · obtain ⟨i, hi, _, rfl⟩ := downs_mem h
        exact down_size hi
  · exact ⟨[], [], (by rw [cands, if_neg hb]; rfl), (fun x hx => by cases hx), (fun x hx => by cases hx)⟩
theorem cands_order {u x y : ByteArray} {i : Nat} (hx : (cands u)[i]? = some x) (hy : (cands u)[i + 1]? = some y) (h : y.size < u.size) : x.size ≠ u.size := by
  obtain ⟨C, E, he, hC, hE⟩ := cands_two u
  rw [he] at hx hy
  rcases Nat.lt_or_ge (i + 1) C.length with hl | hl
  · rw [List.getElem?_append_left (by omega)] at hx
    have := hC x (List.mem_of_getElem? hx)
    omega
  · rw [List.getElem?_append_right hl] at hy
    have := hE y (List.mem_of_getElem? hy)
    omega
theorem cands_first {u : ByteArray} (hb : isB u = true) (h8 : 8 ≤ u.size) : (cands u)[0]? = some (u.extract 8 u.size) := by
  have hs : cutB u 0 8 = u.extract 8 u.size := by
    apply bl_ext
    rw [bl_cut, bl_sub, List.take_zero, List.nil_append, List.take_of_length_le (by rw [List.length_drop, bl_size]; omega)]
  have hne : ¬ cutB u 0 8 = u := by
    intro h
    have := congrArg List.length (bl_cut u 0 8)
    rw [h, bl_size, List.length_append, List.length_take, List.length_drop, bl_size] at this
    omega
  obtain ⟨c, hc⟩ : ∃ c, u.size + 1 - 8 = c + 1 := ⟨u.size - 8, by omega⟩
  rw [cands, if_pos hb, partJ, partN, hc, rem, if_neg hne, hs]
  rfl
/-- told, with what is known of the slice's room -/
theorem told_cap (u : ByteArray) (hs : u.size ≤ 4294967296) (L : List ByteArray) (most : Nat) (hm : 1 ≤ most) (hm2 : most ≤ 100000) (hlen : (cands u).length ≤ 100000) (hL : L = (cands u).take most) (n : Nat) (hn : n = L.length) (z : Int) (hz : z = most) (w : World) (hw : wide4 w) :
    Calls Tryd.prog 12 #[.string u, .int .i64 z] w fun e w' => ∃ a cap, e = .returned (.slice a n cap) ∧ n ≤ cap ∧ Reads w' (.slice a n cap) L ∧ Below w.heap.size w w' := by
  subst hz; subst hL; subst hn
  refine (told_any u hs hlen most hm hm2 w hw).mono fun e w' h => ?_
  obtain ⟨v, rfl, ho, hb⟩ := h
  have hr := reads_owns ho (by rw [List.length_take]; omega)
  rcases ho.2 with ⟨hv, h0⟩ | ⟨g, cap, cur, hv, _, _, hnc, _⟩
  · rw [hv] at hr
    exact ⟨none, 0, by rw [hv, h0], by omega, by rw [h0]; exact hr, hb⟩
  · rw [hv] at hr
    exact ⟨_, cap, by rw [hv], hnc, hr, hb⟩
end Go.Proofs.CT
