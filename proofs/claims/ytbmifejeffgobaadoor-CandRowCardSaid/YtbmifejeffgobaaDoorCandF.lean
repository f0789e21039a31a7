/- Lesser strings: rows of texts that are the same; how many there are. -/
import Derived.Test.YtbmifejeffgobaaDoorCandE
import Derived.Deep.Draws
namespace Go.Proofs.CT
open Go.RowKit
open Go.Proofs
open Go.Proofs.BT
open Go.Proofs.RO
open Go.Shelf
open Go
set_option linter.unusedVariables false
set_option linter.unusedSimpArgs false
attribute [local go_sem] Oper.semAt_some
/-- a slice of texts reads L -/
def Reads (W : World) (v : Value) (L : List ByteArray) : Prop :=
  L.length ≤ 100000 ∧ ∃ a cap, v = .slice a L.length cap ∧ (L = [] ∨ ∃ b, a = some ⟨b, 0, none⟩ ∧ b < W.heap.size ∧ ∀ i (h : i < L.length), W.cell? ⟨b, i, none⟩ = some (.string L[i]))
theorem reads_owns {W : World} {base : Nat} {v : Value} {L : List ByteArray} (h : W.ownsRow base 9 1 v L.length (strs L)) (hl : L.length ≤ 100000) : Reads W v L := by
  refine ⟨hl, ?_⟩
  rcases h.2 with ⟨rfl, h0⟩ | ⟨g, cap, cur, rfl, hb, hg, _⟩
  · have e : L = [] := List.eq_nil_of_length_eq_zero h0
    subst e
    exact ⟨none, 0, rfl, .inl rfl⟩
  · refine ⟨_, cap, rfl, .inr ⟨g, rfl, (Array.getElem?_eq_some_iff.1 hg).1, fun i hi => ?_⟩⟩
    rw [h.cellAt i (by omega)]
    simp [strs, hi]
theorem reads_lit (W : World) (L : List ByteArray) (hl : L.length ≤ 100000) (t : TypeId) (cs : Array Value) (hcs : cs = (strs L).toArray) (n : Nat) (hn : n = L.length) : Reads (W.alloc (.cells cs t)) (.slice (some ⟨W.heap.size, 0, none⟩) n n) L := by
  subst hcs; subst hn
  refine ⟨hl, _, _, rfl, .inr ⟨W.heap.size, rfl, by simp, fun i hi => ?_⟩⟩
  rw [World.cell?_alloc_mark]
  simp [strs, hi]
theorem Reads.later {W W' : World} {v : Value} {L : List ByteArray} (h : Reads W v L) (hb : Below W.heap.size W W') : Reads W' v L := by
  obtain ⟨hl, a, cap, hv, h0 | ⟨b, ha, hlt, hc⟩⟩ := h
  · exact ⟨hl, a, cap, hv, .inl h0⟩
  · exact ⟨hl, a, cap, hv, .inr ⟨b, ha, Nat.lt_of_lt_of_le hlt hb.size, fun i hi => (hb.cell (p := ⟨b, i, none⟩) hlt).trans (hc i hi)⟩⟩
theorem take_eq_next {A B : List ByteArray} {i : Nat} (h : A.take i = B.take i) (ha : i < A.length) (hb : i < B.length) (he : A[i] = B[i]) : A.take (i + 1) = B.take (i + 1) := by
  rw [List.take_succ_eq_append_getElem ha, List.take_succ_eq_append_getElem hb, h, he]
set_option maxHeartbeats 1000000 in
theorem same_any (A B : List ByteArray) (va vb : Value) (w : World) (ha : Reads w va A) (hb : Reads w vb B) (z : Bool) (hz : z = decide (A = B)) :
    Calls Tryd.prog 11 #[va, vb] w fun e w' => e = .returned (.bool z) ∧ ∃ n, w.drewN n = w' := by
  obtain ⟨la, aa, ca, rfl, ra⟩ := ha
  obtain ⟨lb, ab, cb, rfl, rb⟩ := hb
  by_cases hl : A.length = B.length
  · have HZ := Lib.hid hz
    have HL := Lib.hid hl
    clear hz
    obtain ⟨n, hn⟩ : ∃ n, A.length = n := ⟨_, rfl⟩
    have hn2 : B.length = n := by omega
    rw [hn, hn2]
    have HN := Lib.hid hn
    have HN2 := Lib.hid hn2
    clear hl hn hn2
    have hnn : n ≤ 100000 := by rw [← HN.out]; exact la
    go_enter Tryd.func11, Tryd.ntmps11
    go_wp2_with fail
    go_loopw [5] (fun v wr => ∃ i q : Nat, v = .int .i64 i ∧ i ≤ n ∧ Hid (A.take i = B.take i) ∧ wr = w.drewN q) (fun v _ => n - (intOf v).toNat)
    case atStart => exact ⟨0, 0, rfl, by omega, by simp [Hid], rfl⟩
    case round =>
      obtain ⟨i, q, rfl, hi, HT, rfl⟩ := hrel
      by_cases hlt : i < n
      · have hiA : i < A.length := by rw [HN.out]; exact hlt
        have hiB : i < B.length := by rw [HN2.out]; exact hlt
        rcases ra with h0 | ⟨ba, rfl, hba, hca⟩
        · rw [h0] at hiA; simp at hiA
        rcases rb with h0 | ⟨bb, rfl, hbb, hcb⟩
        · rw [h0] at hiB; simp at hiB
        have c1 := hca i hiA
        have c2 := hcb i hiB
        obtain ⟨x, hx⟩ : ∃ x, A[i] = x := ⟨_, rfl⟩
        obtain ⟨y, hy⟩ : ∃ y, B[i] = y := ⟨_, rfl⟩
        rw [hx] at c1
        rw [hy] at c2
        clear hca hcb
        by_cases hxy : x = y
        · have HT2 := Lib.hid (take_eq_next HT.out hiA hiB (by rw [hx, hy]; exact hxy))
          have t1 := seq_yes hxy
          clear HT hx hy hxy hiA hiB
          go_wp2_with fail
          go_quiet (fail)
          go_wp2_with fail
          go_roundw
          case rel => exact ⟨i + 1, _, by go_num, by omega, HT2, rfl⟩
          case measure => simp [intOf]; omega
        · have e := Lib.hid (show z = false by
            rw [HZ.out, decide_eq_false_iff_not]
            rintro rfl
            exact hxy (by rw [← hx, ← hy]))
          have t1 := seq_no hxy
          clear HT hx hy hxy hiA hiB
          go_wp2_with fail
          go_quiet (fail)
          go_wp2_with fail
          go_ret
          refine ⟨by rw [e.out]; rfl, ?_⟩
          rw [World.drewN_drewN]
          exact ⟨_, rfl⟩
      · obtain rfl : i = n := by omega
        have e := Lib.hid (show z = true by
          have := HT.out
          rw [List.take_of_length_le (by rw [HN.out]; omega), List.take_of_length_le (by rw [HN2.out]; omega)] at this
          rw [HZ.out, decide_eq_true_eq]; exact this)
        clear HT
        go_wp2_with fail
        go_ret
        exact ⟨by rw [e.out]; rfl, q, rfl⟩
  · have e := Lib.hid (show z = false by rw [hz, decide_eq_false_iff_not]; intro h; exact hl (by rw [h]))
    have h1 : ¬ ((A.length : Nat) : Int) = (B.length : Int) := by omega
    have h2 : ((((A.length : Nat) : Int)) != (B.length : Int)) = true := by simpa using h1
    clear hz hl
    go_enter Tryd.func11, Tryd.ntmps11
    go_wp2_with fail
    go_ret
    exact ⟨by rw [e.out]; rfl, 0, rfl⟩
set_option maxHeartbeats 4000000 in
theorem count_any (u : ByteArray) (hs : u.size ≤ 4294967296) (hlen : (cands u).length ≤ 100000) (w : World) (hw : wide4 w) (z : Nat) (hz : z = (cands u).length) :
    Calls Tryd.prog 13 #[.string u] w fun e w' => e = .returned (.int .i64 (z : Int)) ∧ Below w.heap.size w w' := by
  have hw0 : 0 < w.heap.size := by
    rcases Nat.eq_zero_or_pos w.heap.size with h | h
    · have := hw.1; simp [World.cell?, h] at this
    · exact h
  have HZ := Lib.hid hz
  clear hz
  refine (callsIn_wide (n := 12)).1 ?_
  refine callsIn_of_wp_marks Tryd.func13 rfl trivial ?_ rfl
  simp only [Tryd.ntmps13, List.size_toArray, List.length_cons, List.length_nil, Nat.reduceAdd, Nat.reduceSub, Array.replicate_succ, Array.replicate_zero, List.push_toArray, List.append_toArray, List.nil_append, List.cons_append]
  gi_wp2_with fail
  refine ⟨trivial, ?_⟩
  refine (callsIn_wide.2 (each_mk u _)).mono ?_; rintro e w1 ⟨rfl, rfl⟩
  gi_wp2_with fail
  have bN := Boxed.new w 3 (.int .i64 0)
  have bU := Boxed.new (w.alloc (.cells #[.int .i64 0] 3)) 9 (.string u)
  have hb0 : Below w.heap.size w ((w.alloc (.cells #[.int .i64 0] 3)).alloc (.cells #[.string u] 9)) := ((Below.refl _ w).alloc (Nat.le_refl _) _).alloc (by simp) _
  have bN := bN.alloc (.cells #[.string u] 9)
  have hV : ((w.alloc (.cells #[.int .i64 0] 3)).alloc (.cells #[.string u] 9)).heap.size = w.heap.size + 2 := by simp
  rw [World.size_alloc] at bU
  have wd := hw.below hb0
  obtain ⟨G, hG⟩ : ∃ G, w.heap.size = G := ⟨_, rfl⟩
  rw [hG] at bN bU hb0 hV hw0 ⊢
  generalize ((w.alloc (.cells #[.int .i64 0] 3)).alloc (.cells #[.string u] 9)) = V at *
  have SQ := each_seq 11 (G + 1) u V hs (by omega) wd bU.cell
  have HG := Lib.hid hG
  obtain ⟨N, hN⟩ : ∃ N, (cands u).length = N := ⟨_, rfl⟩
  rw [hN] at SQ hlen
  have e := Lib.hid (show N = z by rw [← hN]; exact HZ.out.symm)
  clear hG hw wd hN
  refine rangeO rfl (by decide) (gf := 24) (lb := #[.pointer (some ⟨G + 1, 0, none⟩)]) rfl trivial (enters_of Tryd.func24 (by kernel_rfl) rfl)
    SQ (Below.refl _ _) (fun l o h1 h2 h3 h => by
      rcases h with h | h | ⟨_, _, _, rfl⟩
      · omega
      · omega
      · cases h3) (fun _ => rfl)
    (fun k W => Boxed W G 3 (.int .i64 (k : Int)) ∧ Below G w W)
    (fun c k W => False)
    (OwnFrom.and (Own.from (boxed_own _ _ _) _) (ownFrom_below (by rw [HG.out]; exact Nat.le_refl _) (by omega)))
    (fun c => ownFrom_pure _ (fun _ => False))
    ⟨bN, hb0⟩ ?round ?done ?stop
  case round =>
    intro lr k V0 hlr hk
    gi_wp2
    refine ⟨rfl, ?_⟩
    rintro X ⟨bX, hB⟩
    have hc := bX.cell
    have hf := bX.frozen
    gi_wp2_with fail
    refine ⟨⟨(KeepsOthers.setCell _ _ _).from _, Kb.grown (grownBy_setCell' X G _) (fun r o e ho => by
      cases e
      rw [show X.heap[G]? = _ from bX] at ho; cases ho
      rintro (h | h | ⟨_, cs, fr, h⟩)
      · omega
      · omega
      · simp at h)⟩, bX.set _, hB.setCell (p := ⟨G, 0, none⟩) (Nat.le_refl _) _⟩
  case done =>
    rintro D X hD ⟨bX, hB⟩ hK
    have hc := bX.cell
    gi_wp2_with fail
    refine ⟨by simp, .inl ⟨_, _, rfl, run_takeDeferred hK, ?_⟩⟩
    rw [e.out]
    exact ⟨_, results_tmp rfl _ _ _, rfl, by rw [HG.out]; exact hB.grown (grownBy_putObj' _ D _) (by have := hB.size; have := HG.out; omega) (fun k e => by cases e; omega)⟩
  case stop =>
    rintro D c k X hD hk h hK
    exact h.elim
end Go.Proofs.CT
