/- Lesser strings: what is told, up to so many. -/
import Derived.Test.YtbmifejeffgobaaDoorCandD
import Derived.Maps.AppendAt
namespace Go.Proofs.CT
open Go.RowKit
open Go.Proofs
open Go.Proofs.BT
open Go.Proofs.RO
open Go.Shelf
open Go
set_option linter.unusedVariables false
set_option linter.unusedSimpArgs false
attribute [local go_sem] Oper.semAt_some
theorem Tryd.info9 : (Tryd.prog.info? 9).map (fun i => (i.zero, i.size, i.bytes)) = some (some (.string ⟨#[]⟩), 1, 16) := by kernel_rfl
theorem run_eql_nil {P : Program} {t : TypeId} {a b : Array TypeId} {c : Bool} (ht : P.underlying t = some (.func a b c)) (f : Fn) (fs cs : Array Value) (w : World) : (binOp .eql t (.func f fs cs) .nilFunc).run P w = .ok (.bool false) w := by
  have h : (Op.equal t (.func f fs cs) .nilFunc).run P w = .ok false w := by
    unfold Op.equal
    rw [show Op.maxDepth = (Op.maxDepth - 1) + 1 from rfl]
    unfold Op.equalIn
    simp [Sem.run_bind, run_underlying ht, Result.andThen]
  simp [binOp, Sem.run_bind, h, Result.andThen]
/-- the strings as values -/
def strs (L : List ByteArray) : List Value := L.map .string
theorem own_le {w : World} {base base' size n : Nat} {e : TypeId} {v : Value} {xs : List Value} (h : w.ownsRow base e size v n xs) (hb : base' ≤ base) : w.ownsRow base' e size v n xs :=
  ⟨h.1, h.2.elim Or.inl (fun ⟨g, cap, cur, hv, hg, r⟩ => Or.inr ⟨g, cap, cur, hv, Nat.le_trans hb hg, r⟩)⟩
/-- an append of the caller's own, and the store into its box, as the iterator sees it -/
theorem app_keep {W w1 : World} {D B bu k : Nat} {v v' : Value} {xs : List Value} {tmp : Obj} {t : TypeId} (hbu : bu < D) (h0 : 0 < D) (hB : B ≠ bu) (hB0 : B ≠ 0) (ht : t ≠ 44)
    (hv : Boxed W B t v) (hte : t ≠ 9) (hrow : W.ownsRow D 9 1 v k xs) (hgrow : (W.alloc tmp).grownBy w1 v.ownBlock) : Kb (keepE bu) (D + 2) W (w1.setCell ⟨B, 0, none⟩ v') := by
  have k1 : Kb (keepE bu) (D + 2) W (W.alloc tmp) := Kb.below ((Below.refl _ _).alloc (Nat.le_refl _) _)
  have k2 : Kb (keepE bu) (D + 2) (W.alloc tmp) w1 := Kb.grown hgrow (fun r o e ho => by
    rcases (hrow.alloc tmp).2 with ⟨rfl, _⟩ | ⟨g, cap, cur, rfl, hb, hgb, _⟩
    · simp [Value.ownBlock] at e
    · obtain rfl : g = r := by simpa [Value.ownBlock] using e
      rw [hgb] at ho; cases ho
      rintro (h | h | ⟨_, cs, fr, h⟩)
      · omega
      · omega
      · simp at h)
  have hv1 : Boxed w1 B t v := (hv.alloc tmp).kept hgrow (hv.not_row hte hrow)
  have k3 : Kb (keepE bu) (D + 2) w1 (w1.setCell ⟨B, 0, none⟩ v') := Kb.grown (grownBy_setCell' w1 B v') (fun r o e ho => by
    cases e
    rw [show w1.heap[B]? = _ from hv1] at ho; cases ho
    rintro (h | h | ⟨_, cs, fr, h⟩)
    · exact hB h
    · exact hB0 h
    · simp at h; exact ht h.2.1)
  exact (k1.trans k2).trans k3
theorem take_next (cs : List ByteArray) (k : Nat) (h : k < cs.length) : strs (cs.take (k + 1)) = strs (cs.take k) ++ [.string cs[k]] := by
  rw [List.take_succ_eq_append_getElem h, strs, strs, List.map_append]
  rfl
/-- what told hands back -/
def toldPost (L : List ByteArray) (w : World) (e : Ending) (w' : World) : Prop :=
  ∃ v, e = .returned v ∧ w'.ownsRow w.heap.size 9 1 v L.length (strs L) ∧ Below w.heap.size w w'
theorem toldPost_mk {L : List ByteArray} {w W' : World} {G n : Nat} {v : Value} (hG : w.heap.size = G) (hn : L.length = n) (hr : W'.ownsRow G 9 1 v n (strs L)) (hb : Below G w W') : toldPost L w (.returned v) W' := by
  subst hG hn; exact ⟨v, rfl, hr, hb⟩
set_option maxHeartbeats 8000000 in
set_option maxRecDepth 100000 in
theorem told_any (u : ByteArray) (hs : u.size ≤ 4294967296) (hlen : (cands u).length ≤ 100000) (most : Nat) (hm : 1 ≤ most) (hm2 : most ≤ 100000) (w : World) (hw : wide4 w) :
    Calls Tryd.prog 12 #[.string u, .int .i64 (most : Int)] w (toldPost ((cands u).take most) w) := by
  obtain ⟨i0, hi, hz0, hz1, hz2⟩ := info_parts Tryd.info9
  have hw0 : 0 < w.heap.size := by
    rcases Nat.eq_zero_or_pos w.heap.size with h | h
    · have := hw.1; simp [World.cell?, h] at this
    · exact h
  refine (callsIn_wide (n := 12)).1 ?_
  refine callsIn_of_wp_marks Tryd.func12 rfl trivial ?_ rfl
  simp only [Tryd.ntmps12, List.size_toArray, List.length_cons, List.length_nil, Nat.reduceAdd, Nat.reduceSub, Array.replicate_succ, Array.replicate_zero, List.push_toArray, List.append_toArray, List.nil_append, List.cons_append]
  gi_wp2_with fail
  refine ⟨trivial, ?_⟩
  refine (callsIn_wide.2 (each_mk u _)).mono ?_; rintro e w1 ⟨rfl, rfl⟩
  gi_wp2_with (rw [run_eql_nil Tryd.underlying34])
  have bM := Boxed.new w 3 (.int .i64 (most : Int))
  have bO := Boxed.new (w.alloc (.cells #[.int .i64 (most : Int)] 3)) 23 (.slice none 0 0)
  have bU := Boxed.new ((w.alloc (.cells #[.int .i64 (most : Int)] 3)).alloc (.cells #[.slice none 0 0] 23)) 9 (.string u)
  have hb0 : Below w.heap.size w (((w.alloc (.cells #[.int .i64 (most : Int)] 3)).alloc (.cells #[.slice none 0 0] 23)).alloc (.cells #[.string u] 9)) := ((((Below.refl _ w).alloc (Nat.le_refl _) _).alloc (by simp) _).alloc (by simp; omega) _)
  have bM := (bM.alloc (.cells #[.slice none 0 0] 23)).alloc (.cells #[.string u] 9)
  have bO := bO.alloc (.cells #[.string u] 9)
  have hV : (((w.alloc (.cells #[.int .i64 (most : Int)] 3)).alloc (.cells #[.slice none 0 0] 23)).alloc (.cells #[.string u] 9)).heap.size = w.heap.size + 3 := by simp
  rw [World.size_alloc] at bO
  rw [World.size_alloc, World.size_alloc] at bU
  have wd := hw.below hb0
  obtain ⟨G, hG⟩ : ∃ G, w.heap.size = G := ⟨_, rfl⟩
  rw [hG] at bM bO bU hb0 hV hw0 ⊢
  generalize (((w.alloc (.cells #[.int .i64 (most : Int)] 3)).alloc (.cells #[.slice none 0 0] 23)).alloc (.cells #[.string u] 9)) = V at *
  obtain ⟨cs, hcs⟩ : ∃ cs, cands u = cs := ⟨_, rfl⟩
  have SQ := each_seq 11 (G + 1 + 1) u V hs (by omega) wd bU.cell
  rw [hcs] at SQ hlen ⊢
  have HG := Lib.hid hG
  have HCS := Lib.hid hcs
  clear hcs hG hw wd
  refine rangeO rfl (by decide) (gf := 24) (lb := #[.pointer (some ⟨G + 1 + 1, 0, none⟩)]) rfl trivial (enters_of Tryd.func24 (by kernel_rfl) rfl)
    SQ (Below.refl _ _) (fun l o h1 h2 h3 h => by
      rcases h with h | h | ⟨_, _, _, rfl⟩
      · omega
      · omega
      · cases h3) (fun _ => rfl)
    (fun k W => k < most ∧ Boxed W G 3 (.int .i64 (most : Int)) ∧ (∃ v, Boxed W (G + 1) 23 v ∧ W.ownsRow (G + 3) 9 1 v k (strs (cs.take k)) ∧ True) ∧ Below G w W)
    (fun c k W => (c = .exit 0 ∧ k = most) ∧ (∃ v, Boxed W (G + 1) 23 v ∧ W.ownsRow (G + 3) 9 1 v k (strs (cs.take k)) ∧ True) ∧ Below G w W)
    (OwnFrom.and (ownFrom_pure _ _) (OwnFrom.and (Own.from (boxed_own _ _ _) _) (OwnFrom.and (Own.from (holdsRow_own (G + 3) (G + 1) _ _ 1 (fun k => k) (fun k => strs (cs.take k)) (fun _ _ => True)) _) (ownFrom_below (by rw [HG.out]; exact Nat.le_refl _) (by omega)))))
    (fun c => OwnFrom.and (ownFrom_pure _ (fun k => c = .exit 0 ∧ k = most)) (OwnFrom.and (Own.from (holdsRow_own (G + 3) (G + 1) _ _ 1 (fun k => k) (fun k => strs (cs.take k)) (fun _ _ => True)) _) (ownFrom_below (by rw [HG.out]; exact Nat.le_refl _) (by omega))))
    ⟨hm, bM, ⟨_, bO, World.ownsRow_nil _ _ _ _, trivial⟩, hb0⟩ ?round ?done ?stop
  case round =>
    intro lr k V0 hlr hk
    gi_wp2
    refine ⟨rfl, ?_⟩
    rintro X ⟨hkm, bMX, ⟨v, hv, hrow, -⟩, hB⟩
    have hc := hv.cell
    have hcm := bMX.cell
    have htk := Lib.hid (take_next cs k hk)
    have hXs := hB.size
    rcases Nat.lt_or_ge (k + 1) most with hlast | hlast
    all_goals
      gi_wp2_with (gi_at_builtin; refine wpListIn_append_own _ rfl _ _ 23 rfl (G + 3) 9 i0 (.string ⟨#[]⟩) 1 16 Tryd.underlying23 hi hz0 hz1 hz2 rfl (by decide) _ _ _ rfl (hrow.alloc _) ⟨X.heap.size, 0, none⟩ 1 1 [.string cs[k]] rfl rfl (cell_one_new _ _ _) (by simp [Value.oneCell']) (by unfold maxLen; omega) (by omega) (by have := hv.lt; simp; omega) ?_; intro v' w1 hown' hgrow _; obtain ⟨g', cap', rfl⟩ := ownsRow_succ hown'; obtain ⟨hv1, hv2, -, hk2, hb2⟩ := hv.appended (show 23 ≠ 9 by decide) (own_le hrow (show G ≤ G + 3 by omega)) (show G ≤ X.heap.size by have := HG.out; omega) (show G ≤ G + 1 by omega) (own_le hown' (show G ≤ G + 3 by omega)) hgrow; have hr2 := hown'.kept (grownBy_setCell' w1 (G + 1) (.slice (some ⟨g', 0, none⟩) (k + 1) cap')) (.inr (hv1.not_row (show 23 ≠ 9 by decide) hown').symm); have kb2 := app_keep (D := G + 3) (B := G + 1) (bu := G + 1 + 1) (v' := .slice (some ⟨g', 0, none⟩) (k + 1) cap') (by omega) (by omega) (by omega) (by omega) (show 23 ≠ 44 by decide) hv (show 23 ≠ 9 by decide) hrow hgrow; have bM1 := (bMX.alloc _).kept hgrow (bMX.not_row (show 3 ≠ 9 by decide) hrow); have hc1 := hv1.cell; have hf1 := hv1.frozen; have hm1 := bM1.cell; have HR2 := Lib.hid hr2; have HBB := Lib.hid hb2; clear hown' hgrow hr2 hb2 hrow hv)
    · refine ⟨⟨hk2.from _, by rw [hV]; exact kb2⟩, hlast, bM1.other (by omega) _, ⟨_, hv2, by rw [htk.out]; exact HR2.out, trivial⟩, hB.trans HBB.out⟩
    · exact ⟨⟨hk2.from _, by rw [hV]; exact kb2⟩, ⟨rfl, by omega⟩, ⟨_, hv2, by rw [htk.out]; exact HR2.out, trivial⟩, hB.trans HBB.out⟩
  case done =>
    rintro D X hD ⟨hkm, bMX, ⟨v, hv, hrow, -⟩, hB⟩ hK
    have hc := hv.cell
    have e := Lib.hid (show cs.take most = cs.take cs.length by rw [List.take_of_length_le (by omega), List.take_length])
    have e2 := Lib.hid (show (cs.take most).length = cs.length by rw [e.out, List.take_length])
    gi_wp2_with fail
    refine ⟨by simp, .inl ⟨_, _, rfl, run_takeDeferred hK, ?_⟩⟩
    refine ⟨_, results_tmp rfl _ _ _, toldPost_mk (n := cs.length) HG.out (by rw [HCS.out]; exact e2.out) ?_ (hB.grown (grownBy_putObj' _ D _) (by have := hB.size; have := HG.out; omega) (fun k e => by cases e; omega))⟩
    rw [HCS.out, e.out, List.take_length]
    have := hrow
    rw [List.take_length] at this
    exact own_le (ownsRow_putObj this _ hK rfl) (by omega)
  case stop =>
    rintro D c k X hD hk ⟨⟨rfl, rfl⟩, ⟨v, hv, hrow, -⟩, hB⟩ hK
    have hc := hv.cell
    have e2 := Lib.hid (show (cs.take k).length = k by rw [List.length_take]; omega)
    gi_wp2_with fail
    refine ⟨by simp, .inl ⟨_, _, rfl, run_takeDeferred hK, ?_⟩⟩
    exact ⟨_, results_tmp rfl _ _ _, toldPost_mk (n := k) HG.out (by rw [HCS.out]; exact e2.out) (by rw [HCS.out]; exact own_le (ownsRow_putObj hrow _ hK rfl) (show G ≤ G + 3 by omega)) (hB.grown (grownBy_putObj' _ D _) (by have := hB.size; have := HG.out; omega) (fun k e => by cases e; omega))⟩
end Go.Proofs.CT
