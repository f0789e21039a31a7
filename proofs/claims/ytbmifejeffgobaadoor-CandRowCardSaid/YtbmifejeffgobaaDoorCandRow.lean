/- The statement CandRow, as a tied card: the shorter ones first; the first of all; gone over again the same; left early the first ones. Condition: the package variable cand.widths holds what the program's text lays, which the card ties. -/
import Derived.Test.YtbmifejeffgobaaDoorRows
import Derived.Test.YtbmifejeffgobaaDoorCards
import Derived.Test.YtbmifejeffgobaaDoorTie
import Derived.WalkKit
import Derived.ProofKit
import Derived.OpenShut
import Derived.ShutString
import Derived.Below
import Derived.LaidMore
import Derived.Stop.Joined
import Derived.SevenTiedAt
import Derived.Test.YtbmifejeffgobaaDoorCandN
import Derived.Sort.QuietIn
import Derived.Sort.CutIn
namespace Go.Proofs.YtbmifejeffgobaaDoor.candRow
open Go.ChangeShapes Go.WideShapes Go.ChangeAt Go.RowKit
open Go.ChangeMaps (open_string shut_string)
open Go.Proofs
set_option linter.unusedVariables false
open Go.Proofs.CT
open Go.Proofs.RO
open Go.Proofs.BT
open Go.Shelf
set_option linter.unusedSimpArgs false
attribute [local go_sem] Oper.semAt_some
theorem wide_fn (f : Nat) : Fence.wide.fn f = True := eq_true trivial
attribute [local simp] wide_fn
attribute [local go_sem] wide_fn
def FixO (B e : Nat) (X W : World) : Prop := B ≤ W.heap.size ∧ ∀ k, k < B → k ≠ e → W.heap[k]? = X.heap[k]?
theorem fix_own (B e : Nat) (X : World) : OwnFrom B (fun (_ : Nat) W => FixO B e X W) :=
  fun s A A' row hs hg hr => ⟨Nat.le_trans hs.1 hg.size, fun k hk hne => (hg.block k (Nat.lt_of_lt_of_le hk hs.1) (fun e => by have := (hr k e.symm).1; omega)).trans (hs.2 k hk hne)⟩
theorem fix_app {B e k : Nat} {X Y w1 : World} {v v' : Value} {xs : List Value} {tmp : Obj} {ts : TypeId} (hF : FixO B e X Y) (hrow : Y.ownsRow B ts 1 v k xs) (hgrow : (Y.alloc tmp).grownBy w1 v.ownBlock) : FixO B e X (w1.setCell ⟨e, 0, none⟩ v') := by
  have h1 := hgrow.size
  rw [World.size_alloc] at h1
  refine ⟨by have := hF.1; simp [World.setCell]; omega, fun j hj hne => ?_⟩
  have hjY : j < Y.heap.size := Nat.lt_of_lt_of_le hj hF.1
  rw [Below.heap_setCell w1 ⟨e, 0, none⟩ v' j hne, hgrow.block j (by rw [World.size_alloc]; omega) (fun h => by
    rcases hrow.2 with ⟨rfl, _⟩ | ⟨g, cap, cur, rfl, hgb, _⟩
    · simp [Value.ownBlock] at h
    · simp [Value.ownBlock] at h; omega), Below.heap_alloc _ _ _ hjY]
  exact hF.2 j hj hne
theorem box_row {base B k : Nat} {ts : TypeId} {W : World} {v : Value} {xs : List Value} (hrow : W.ownsRow base ts 1 v k xs) (h : B < base) : some B ≠ v.ownBlock := by
  rcases hrow.2 with ⟨rfl, _⟩ | ⟨g, cap, cur, rfl, hgb, _⟩
  · simp [Value.ownBlock]
  · simp [Value.ownBlock]; omega
theorem fix_reads {e base : Nat} {X Y : World} {v : Value} {L : List ByteArray} (hF : FixO X.heap.size e X Y) (hrow : X.ownsRow base 9 1 v L.length (strs L)) (hl : L.length ≤ 100000) (he : e < base) : Reads Y v L := by
  refine ⟨hl, ?_⟩
  rcases hrow.2 with ⟨rfl, h0⟩ | ⟨g, cap, cur, rfl, hb, hg, _⟩
  · have e : L = [] := List.eq_nil_of_length_eq_zero h0
    subst e
    exact ⟨none, 0, rfl, .inl rfl⟩
  · have hgX := (Array.getElem?_eq_some_iff.1 hg).1
    refine ⟨_, cap, rfl, .inr ⟨g, rfl, Nat.lt_of_lt_of_le hgX hF.1, fun i hi => ?_⟩⟩
    rw [World.cell?_of_block (w := X) (hF.2 g hgX (by omega)), hrow.cellAt i (by omega)]
    simp [CT.strs, hi]
theorem reads_take {W : World} {a : Option Addr} {n c p : Nat} {L : List ByteArray} (h : Reads W (.slice a n c) L) (hn : n = L.length) (hp : p ≤ n) : Reads W (.slice a p c) (L.take p) := by
  obtain ⟨hl, a', cap, hv, h0⟩ := h
  cases hv
  refine ⟨by rw [List.length_take]; omega, a, c, by rw [List.length_take, Nat.min_eq_left (by omega)], ?_⟩
  rcases h0 with rfl | ⟨b, ha, hlt, hc⟩
  · exact .inl (by simp)
  · exact .inr ⟨b, ha, hlt, fun i hi => by rw [List.length_take] at hi; rw [hc i (by omega), List.getElem_take]⟩

theorem own : ownKnob Tryd.prog.godebug = none := by kernel_rfl
set_option maxHeartbeats 16000000 in
set_option maxRecDepth 100000 in
theorem walk (a0 : ByteArray) (a1 : Int) (w0 : a0.size ≤ maxLen) (w1 : (Lit.int .u16 a1).wf = true) (w : World) (hw : CT.wide4 w) :
    Calls Tryd.prog 6 #[.string a0, .int .u16 a1] w fun e w' => e = .returned (.bool true) ∧ Below w.heap.size w w' := by
  unfold maxLen at w0
  have K : Below w.heap.size w w := Below.refl _ _
  by_cases hl : 300 < a0.size
  · refine (callsIn_wide (n := 12)).1 ?_
    refine callsIn_of_wp_marks Tryd.func6 rfl trivial ?_ rfl
    simp only [Tryd.ntmps6, List.size_toArray, List.length_cons, List.length_nil, Nat.reduceAdd, Nat.reduceSub, Array.replicate_succ, Array.replicate_zero, List.push_toArray, List.append_toArray, List.nil_append, List.cons_append]
    gi_wp2_with fail
    gi_wp2_with fail
    refine (callsIn_wide.2 (awake _ hw)).mono ?_; rintro e w1 ⟨rfl, hb⟩
    replace K : Below w.heap.size w w1 := K.trans (hb.mono K.size)
    clear hb
    gi_wp2_with fail
    exact ⟨_, results_tmp rfl _ _ _, rfl, K⟩
  · have hlen := cands_len a0 (by omega)
    obtain ⟨L, hL⟩ : ∃ L, L = cands a0 := ⟨_, rfl⟩
    obtain ⟨n, hn⟩ : ∃ n, n = L.length := ⟨_, rfl⟩
    have hn2 : n ≤ 5000 := by rw [hn, hL]; exact hlen
    have HL := Lib.hid hL
    have HN := Lib.hid hn
    have hsz : a0.size ≤ 300 := by omega
    have R2 := Lib.hid (fun (W : World) (hW : wide4 W) => told_cap a0 (by omega) L 5000 (by omega) (by omega) (by omega) (by rw [hL, List.take_of_length_le hlen]) n hn 5000 rfl W hW)
    obtain ⟨m, hm, hm1, hm5⟩ : ∃ m : Nat, wrap64 (1 + (wrap64 a1).tmod 5000) = (m : Int) ∧ 1 ≤ m ∧ m ≤ 5000 := by
      have h := w1
      simp only [Lit.wf, IntKind.signed, IntKind.bits, decide_eq_true_eq, Bool.and_eq_true] at h
      have h : (0 : Int) ≤ a1 ∧ a1 ≤ 65535 := h
      obtain ⟨b, hb⟩ : ∃ b : Nat, a1 = (b : Int) := ⟨a1.toNat, by omega⟩
      have hb2 : b < 65536 := by omega
      have e1 : wrap64 a1 = (b : Int) := by rw [hb]; unfold wrap64; omega
      refine ⟨1 + b % 5000, ?_, by omega, by have := Nat.mod_lt b (show 0 < 5000 by decide); omega⟩
      rw [e1]
      have e2 : ((b : Int)).tmod 5000 = ((b % 5000 : Nat) : Int) := by rw [Int.tmod_eq_emod_of_nonneg (by omega)]; omega
      have := Nat.mod_lt b (show 0 < 5000 by decide)
      rw [e2]; unfold wrap64; omega
    have HM := Lib.hid hm
    clear hm
    clear hL hn hlen
    refine (callsIn_wide (n := 12)).1 ?_
    refine callsIn_of_wp_marks Tryd.func6 rfl trivial ?_ rfl
    simp only [Tryd.ntmps6, List.size_toArray, List.length_cons, List.length_nil, Nat.reduceAdd, Nat.reduceSub, Array.replicate_succ, Array.replicate_zero, List.push_toArray, List.append_toArray, List.nil_append, List.cons_append]
    gi_wp2_with fail
    refine (callsIn_wide.2 (awake _ hw)).mono ?_; rintro e w2 ⟨rfl, hb⟩
    replace K : Below w.heap.size w w2 := K.trans (hb.mono K.size)
    replace hw := hw.below hb
    clear hb
    gi_wp2_with fail
    refine (callsIn_wide.2 (R2.out _ hw)).mono ?_; rintro e w3 ⟨a2, c2, rfl, hc2, S2, hb⟩
    replace K : Below w.heap.size w w3 := K.trans (hb.mono K.size)
    replace hw := hw.below hb
    clear hb
    gi_wp2_with fail
    have S2h := Lib.hid S2
    have hwh := Lib.hid hw
    gi_loopw [6] (fun v wr => ∃ i : Nat, v = .int .i64 i ∧ 1 ≤ i ∧ (i ≤ n ∨ i = 1) ∧ Below w.heap.size w wr ∧ Hid (wide4 wr) ∧ Hid (Reads wr (.slice a2 n c2) L)) (fun v _ => 5001 - (intOf v).toNat)
    case atStart => exact ⟨1, rfl, by omega, by omega, K, hwh, S2h⟩
    case round =>
      clear S2h hwh S2 hw K
      obtain ⟨i, rfl, h1, h2, K, HW, HS⟩ := hrel
      rcases Nat.lt_or_ge i n with hlt | hge
      · obtain ⟨x, ⟨b, rfl, cx⟩, mx, gx⟩ := HS.out.get HN.out hlt
        obtain ⟨y, ⟨b', hbb, cy⟩, my, gy⟩ := HS.out.get HN.out (show i - 1 < n by omega)
        cases hbb
        have t := fun h => cands_order (u := a0) (i := i - 1) (by rw [← HL.out]; exact gy) (by rw [← HL.out, show i - 1 + 1 = i by omega]; exact gx) h
        by_cases hx : x.size < a0.size
        all_goals
          have t1 : x.size < a0.size → ((y.size : Int) == (a0.size : Int)) = false := fun h => by have := t h; rw [beq_eq_false_iff_ne]; omega
          clear t gx gy mx my HL
        · have t2 := t1 hx
          clear t1
          gi_wp2_with fail
          refine ⟨⟨i + 1, rfl, by omega, by omega, K, HW, HS⟩, ?_⟩
          simp only [intOf]; omega
        · clear t1
          gi_wp2_with fail
          refine ⟨⟨i + 1, rfl, by omega, by omega, K, HW, HS⟩, ?_⟩
          simp only [intOf]; omega
      · obtain ⟨z, hz⟩ : ∃ z, isB a0 = z := ⟨_, rfl⟩
        have HZ := Lib.hid hz.symm
        clear hz
        have S2 := HS.out
        have IQ := Lib.hid (fun m => is1 a0 (wr.drewN m) (by omega) z HZ.out)
        have MT : ∀ q, Hid (wide4 (wr.drewN q)) ∧ Hid (Reads (wr.drewN q) (.slice a2 n c2) L) ∧ Below w.heap.size w (wr.drewN q) := fun q => ⟨Lib.hid (HW.out.below (below_drewN (Below.refl _ wr) q)), Lib.hid (HS.out.later (below_drewN (Below.refl _ wr) q)), below_drewN K q⟩
        have MTH := Lib.hid MT
        clear MT
        gi_upto_region 9 with fail
        gi_cut [67] from 48 (fun s67 wc => s67 = .bool false ∧ Hid (wide4 wc) ∧ Hid (Reads wc (.slice a2 n c2) L) ∧ Below w.heap.size w wc)
        case first =>
          rename_i J0 K0 hJ0 hK0
          cases z with
          | false =>
            gi_quiet (exact (callsIn_wide.2 (IQ.out _)).mono (fun _ _ h => ⟨h.1, _, h.2.symm⟩))
            refine hK0 _ _ (Met.intro (hJ0 _ _ ?_))
            (repeat apply Exists.intro)
            refine ⟨?_, rfl⟩
            exact ⟨rfl, MTH.out nq⟩
          | true =>
            rcases Nat.lt_or_ge a0.size 8 with h8 | h8
            · have h9 : ¬ ((8 : Int) ≤ (a0.size : Int)) := by omega
              gi_quiet (exact (callsIn_wide.2 (IQ.out _)).mono (fun _ _ h => ⟨h.1, _, h.2.symm⟩))
              refine hK0 _ _ (Met.intro (hJ0 _ _ ?_))
              (repeat apply Exists.intro)
              refine ⟨?_, rfl⟩
              exact ⟨rfl, MTH.out nq⟩
            · have hf := cands_first HZ.out.symm h8
              rw [← HL.out] at hf
              have hn0 : 0 < n := by
                rcases Nat.eq_zero_or_pos n with h | h
                · rw [HN.out] at h; rw [List.eq_nil_of_length_eq_zero h] at hf; cases hf
                · exact h
              obtain ⟨x, ⟨b, rfl, cx⟩, mx, gx⟩ := HS.out.get HN.out hn0
              rw [hf] at gx
              cases gx
              have t1 := seq_yes (rfl : a0.extract 8 a0.size = a0.extract 8 a0.size)
              have h9 : ((8 : Int) ≤ (a0.size : Int)) := by omega
              have h10 : ((n : Int) == 0) = false := by rw [beq_eq_false_iff_ne]; omega
              clear hf mx
              gi_quiet (exact (callsIn_wide.2 (IQ.out _)).mono (fun _ _ h => ⟨h.1, _, h.2.symm⟩))
              refine hK0 _ _ (Met.intro (hJ0 _ _ ?_))
              (repeat apply Exists.intro)
              refine ⟨?_, rfl⟩
              exact ⟨rfl, MTH.out nq⟩
        case rest =>
          obtain ⟨rfl, HW, HS, K⟩ := hcut
          gi_wp2_with fail
          refine (callsIn_wide.2 (each_mk a0 _)).mono ?_; rintro e w5 ⟨rfl, rfl⟩
          gi_wp2_with (rw [run_eql_nil Tryd.underlying34])
          rw [HM.out]
          have bM := Boxed.new wc 3 (.int .i64 (m : Int))
          have bU := Boxed.new (wc.alloc (.cells #[.int .i64 (m : Int)] 3)) 9 (.string a0)
          have bA := Boxed.new ((wc.alloc (.cells #[.int .i64 (m : Int)] 3)).alloc (.cells #[.string a0] 9)) 23 (.slice none 0 0)
          have bB := Boxed.new (((wc.alloc (.cells #[.int .i64 (m : Int)] 3)).alloc (.cells #[.string a0] 9)).alloc (.cells #[.slice none 0 0] 23)) 23 (.slice none 0 0)
          have hb0 : Below wc.heap.size wc ((((wc.alloc (.cells #[.int .i64 (m : Int)] 3)).alloc (.cells #[.string a0] 9)).alloc (.cells #[.slice none 0 0] 23)).alloc (.cells #[.slice none 0 0] 23)) := (((((Below.refl _ wc).alloc (Nat.le_refl _) _).alloc (by simp) _).alloc (by simp; omega) _).alloc (by simp; omega) _)
          have bM := ((bM.alloc (.cells #[.string a0] 9)).alloc (.cells #[.slice none 0 0] 23)).alloc (.cells #[.slice none 0 0] 23)
          have bU := (bU.alloc (.cells #[.slice none 0 0] 23)).alloc (.cells #[.slice none 0 0] 23)
          have bA := bA.alloc (.cells #[.slice none 0 0] 23)
          have hV : ((((wc.alloc (.cells #[.int .i64 (m : Int)] 3)).alloc (.cells #[.string a0] 9)).alloc (.cells #[.slice none 0 0] 23)).alloc (.cells #[.slice none 0 0] 23)).heap.size = wc.heap.size + 4 := by simp
          rw [World.size_alloc] at bU
          rw [World.size_alloc, World.size_alloc] at bA
          rw [World.size_alloc, World.size_alloc, World.size_alloc] at bB
          have wd := HW.out.below hb0
          have hw0 : 0 < wc.heap.size := by
            rcases Nat.eq_zero_or_pos wc.heap.size with h | h
            · have := HW.out.1; simp [World.cell?, h] at this
            · exact h
          obtain ⟨G, hG⟩ : ∃ G, wc.heap.size = G := ⟨_, rfl⟩
          rw [hG] at bM bU bA bB hb0 hV hw0 ⊢
          generalize ((((wc.alloc (.cells #[.int .i64 (m : Int)] 3)).alloc (.cells #[.string a0] 9)).alloc (.cells #[.slice none 0 0] 23)).alloc (.cells #[.slice none 0 0] 23)) = V at *
          obtain ⟨cs, hcs⟩ : ∃ cs, cands a0 = cs := ⟨_, rfl⟩
          have SQ := each_seq 11 (G + 1) a0 V (by omega) (by omega) wd bU.cell
          have hlen : cs.length ≤ 5000 := by rw [← hcs]; exact cands_len a0 (by omega)
          rw [hcs] at SQ
          have HG := Lib.hid hG
          have HCS := Lib.hid hcs
          clear hcs hG wd
          have HMM := Lib.hid HM.out
          obtain ⟨i0, hi0, hz0, hz1, hz2⟩ := info_parts Tryd.info9
          refine rangeO rfl (by decide) (gf := 24) (lb := #[.pointer (some ⟨G + 1, 0, none⟩)]) rfl trivial (enters_of Tryd.func24 (by kernel_rfl) rfl)
            SQ (Below.refl _ _) (fun l o h1 h2 h3 h => by
              rcases h with h | h | ⟨_, _, _, rfl⟩
              · omega
              · omega
              · cases h3) (fun _ => rfl)
            (fun k W => k < m ∧ Boxed W G 3 (.int .i64 (m : Int)) ∧ Boxed W (G + 1) 9 (.string a0) ∧ Boxed W (G + 1 + 1 + 1) 23 (.slice none 0 0) ∧ (∃ v, Boxed W (G + 1 + 1) 23 v ∧ W.ownsRow (G + 4) 9 1 v k (strs (cs.take k)) ∧ True) ∧ Below G wc W)
            (fun c k W => (c = .exit 2 ∧ k = m) ∧ Boxed W G 3 (.int .i64 (m : Int)) ∧ Boxed W (G + 1) 9 (.string a0) ∧ Boxed W (G + 1 + 1 + 1) 23 (.slice none 0 0) ∧ (∃ v, Boxed W (G + 1 + 1) 23 v ∧ W.ownsRow (G + 4) 9 1 v k (strs (cs.take k)) ∧ True) ∧ Below G wc W)
            (OwnFrom.and (ownFrom_pure _ _) (OwnFrom.and (Own.from (boxed_own _ _ _) _) (OwnFrom.and (Own.from (boxed_own _ _ _) _) (OwnFrom.and (Own.from (boxed_own _ _ _) _) (OwnFrom.and (Own.from (holdsRow_own (G + 4) (G + 1 + 1) _ _ 1 (fun k => k) (fun k => strs (cs.take k)) (fun _ _ => True)) _) (ownFrom_below (by rw [HG.out]; exact Nat.le_refl _) (by omega)))))))
            (fun c => OwnFrom.and (ownFrom_pure _ (fun k => c = .exit 2 ∧ k = m)) (OwnFrom.and (Own.from (boxed_own _ _ _) _) (OwnFrom.and (Own.from (boxed_own _ _ _) _) (OwnFrom.and (Own.from (boxed_own _ _ _) _) (OwnFrom.and (Own.from (holdsRow_own (G + 4) (G + 1 + 1) _ _ 1 (fun k => k) (fun k => strs (cs.take k)) (fun _ _ => True)) _) (ownFrom_below (by rw [HG.out]; exact Nat.le_refl _) (by omega)))))))
            ⟨by omega, bM, bU, bB, ⟨_, bA, World.ownsRow_nil _ _ _ _, trivial⟩, hb0⟩ ?round ?done ?stop
          case round =>
            intro lr k V0 hlr hk
            gi_wp2
            refine ⟨rfl, ?_⟩
            rintro X ⟨hkm, bMX, bUX, bBX, ⟨v, hv, hrow, -⟩, hB⟩
            have hc := hv.cell
            have hcm := bMX.cell
            have htk := Lib.hid (take_next cs k hk)
            have hXs := hB.size
            rcases Nat.lt_or_ge (k + 1) m with hlast | hlast
            all_goals
              gi_wp2_with (gi_at_builtin; refine wpListIn_append_own _ rfl _ _ 23 rfl (G + 4) 9 i0 (.string ⟨#[]⟩) 1 16 Tryd.underlying23 hi0 hz0 hz1 hz2 rfl (by decide) _ _ _ rfl (hrow.alloc _) ⟨X.heap.size, 0, none⟩ 1 1 [.string cs[k]] rfl rfl (cell_one_new _ _ _) (by simp [Value.oneCell']) (by unfold maxLen; omega) (by omega) (by have := hv.lt; simp; omega) ?_; intro v' w1 hown' hgrow _; obtain ⟨g', cap', rfl⟩ := ownsRow_succ hown'; obtain ⟨hv1, hv2, -, hk2, hb2⟩ := hv.appended (show 23 ≠ 9 by decide) (own_le hrow (show G ≤ G + 4 by omega)) (show G ≤ X.heap.size by have := HG.out; omega) (show G ≤ G + 1 + 1 by omega) (own_le hown' (show G ≤ G + 4 by omega)) hgrow; have hr2 := hown'.kept (grownBy_setCell' w1 (G + 1 + 1) (.slice (some ⟨g', 0, none⟩) (k + 1) cap')) (.inr (hv1.not_row (show 23 ≠ 9 by decide) hown').symm); have kb2 := app_keep (D := G + 4) (B := G + 1 + 1) (bu := G + 1) (v' := .slice (some ⟨g', 0, none⟩) (k + 1) cap') (by omega) (by omega) (by omega) (by omega) (show 23 ≠ 44 by decide) hv (show 23 ≠ 9 by decide) hrow hgrow; have bM1 := (bMX.alloc _).kept hgrow (bMX.not_row (show 3 ≠ 9 by decide) hrow); have bB1 := (bBX.alloc _).kept hgrow (bBX.not_row (show 23 ≠ 9 by decide) hrow); have bU1 := (bUX.alloc (.cells #[.string cs[k]] 9)).kept hgrow (box_row hrow (show G + 1 < G + 4 by omega)); have hc1 := hv1.cell; have hf1 := hv1.frozen; have hm1 := bM1.cell; have HR2 := Lib.hid hr2; have HBB := Lib.hid hb2; clear hown' hgrow hr2 hb2 hrow hv)
            · refine ⟨⟨hk2.from _, by rw [hV]; exact kb2⟩, hlast, bM1.other (by omega) _, bU1.other (by omega) _, bB1.other (by omega) _, ⟨_, hv2, by rw [htk.out]; exact HR2.out, trivial⟩, hB.trans HBB.out⟩
            · exact ⟨⟨hk2.from _, by rw [hV]; exact kb2⟩, ⟨rfl, by omega⟩, bM1.other (by omega) _, bU1.other (by omega) _, bB1.other (by omega) _, ⟨_, hv2, by rw [htk.out]; exact HR2.out, trivial⟩, hB.trans HBB.out⟩
          case done =>
            rintro D X hD ⟨hkm, bMX, bUX, bBX, ⟨v, hv, hrow, -⟩, hB⟩ hK
            have hp := Lib.hid (show cs.length = min m cs.length by omega)
            have SX := Lib.hid (HS.out.later (by rw [HG.out]; exact hB))
            have wX := HW.out.below (W' := X) (by rw [HG.out]; exact hB)
            have SQ2 := each_seq 11 (G + 1) a0 X (by omega) bUX.lt wX bUX.cell
            rw [HCS.out] at SQ2
            have hX4 : G + 4 ≤ X.heap.size := by have := bBX.lt; omega
            gi_wp2_with fail
            refine rangeO rfl (by decide) (gf := 24) (lb := #[.pointer (some ⟨G + 1, 0, none⟩)]) rfl trivial (enters_of Tryd.func24 (by kernel_rfl) rfl)
              SQ2 (Below.refl _ _) (fun l o h1 h2 h3 h => by
                rcases h with h | h | ⟨_, _, _, rfl⟩
                · omega
                · omega
                · cases h3) (fun _ => rfl)
              (fun k W => FixO X.heap.size (G + 1 + 1 + 1) X W ∧ (∃ v, Boxed W (G + 1 + 1 + 1) 23 v ∧ W.ownsRow X.heap.size 9 1 v k (strs (cs.take k)) ∧ True) ∧ Below G wc W)
              (fun c k W => False)
              (OwnFrom.and (fix_own _ _ _) (OwnFrom.and (Own.from (holdsRow_own X.heap.size (G + 1 + 1 + 1) _ _ 1 (fun k => k) (fun k => strs (cs.take k)) (fun _ _ => True)) _) (ownFrom_below (by rw [HG.out]; exact Nat.le_refl _) (by omega))))
              (fun c => ownFrom_pure _ (fun _ => False))
              ⟨⟨Nat.le_refl _, fun _ _ _ => rfl⟩, ⟨_, bBX, World.ownsRow_nil _ _ _ _, trivial⟩, hB⟩ ?round2 ?done2 ?stop2
            case round2 =>
              intro lr2 k2 V0 hlr2 hk2'
              gi_wp2
              refine ⟨rfl, ?_⟩
              rintro Y ⟨hF, ⟨v2, hv2, hrow2, -⟩, hBY⟩
              have hc := hv2.cell
              have htk := Lib.hid (take_next cs k2 hk2')
              have hYs := hBY.size
              have hYX := hF.1
              gi_wp2_with (gi_at_builtin; refine wpListIn_append_own _ rfl _ _ 23 rfl X.heap.size 9 i0 (.string ⟨#[]⟩) 1 16 Tryd.underlying23 hi0 hz0 hz1 hz2 rfl (by decide) _ _ _ rfl (hrow2.alloc _) ⟨Y.heap.size, 0, none⟩ 1 1 [.string cs[k2]] rfl rfl (cell_one_new _ _ _) (by simp [Value.oneCell']) (by unfold maxLen; omega) (by omega) (by have := hv2.lt; simp; omega) ?_; intro v' w1 hown' hgrow _; obtain ⟨g', cap', rfl⟩ := ownsRow_succ hown'; obtain ⟨hv1, hv2n, -, hk2, hb2⟩ := hv2.appended (show 23 ≠ 9 by decide) (own_le hrow2 (show G ≤ X.heap.size by omega)) (show G ≤ Y.heap.size by omega) (show G ≤ G + 1 + 1 + 1 by omega) (own_le hown' (show G ≤ X.heap.size by omega)) hgrow; have hr2 := hown'.kept (grownBy_setCell' w1 (G + 1 + 1 + 1) (.slice (some ⟨g', 0, none⟩) (k2 + 1) cap')) (.inr (hv1.not_row (show 23 ≠ 9 by decide) hown').symm); have kb2 := app_keep (D := X.heap.size) (B := G + 1 + 1 + 1) (bu := G + 1) (v' := .slice (some ⟨g', 0, none⟩) (k2 + 1) cap') (by omega) (by omega) (by omega) (by omega) (show 23 ≠ 44 by decide) hv2 (show 23 ≠ 9 by decide) hrow2 hgrow; have hF2 := Lib.hid (fix_app (e := G + 1 + 1 + 1) (v' := .slice (some ⟨g', 0, none⟩) (k2 + 1) cap') hF hrow2 hgrow); have hc1 := hv1.cell; have hf1 := hv1.frozen; have HR2 := Lib.hid hr2; have HBB := Lib.hid hb2; clear hown' hgrow hr2 hb2 hrow2 hv2)
              exact ⟨⟨hk2.from _, kb2⟩, hF2.out, ⟨_, hv2n, by rw [htk.out]; exact HR2.out, trivial⟩, hBY.trans HBB.out⟩
            case done2 =>
              rintro D2 Y hD2 ⟨hF, ⟨v2, hv2, hrow2, -⟩, hBY⟩ hK2
              have hp2 : (cs.take cs.length).length = cs.length := by rw [List.length_take]; omega
              have bA2 : Boxed Y (G + 1 + 1) 23 v := (hF.2 _ (by omega) (by omega)).trans hv
              have bM2 : Boxed Y G 3 (.int .i64 (m : Int)) := (hF.2 _ (by omega) (by omega)).trans bMX
              have RA := Lib.hid (fix_reads (L := cs.take cs.length) hF (by rw [hp2]; exact hrow) (by omega) (by omega))
              have RB := Lib.hid (reads_owns (L := cs) (by have := hrow2; rw [List.take_length] at this; exact this) (by omega))
              have RL := Lib.hid (HS.out.later (W' := Y) (by rw [HG.out]; exact hBY))
              have hK1 : Y.heap[D]? = some (.deferred (some [])) := (hF.2 D (Array.getElem?_eq_some_iff.1 hK).1 (by omega)).trans hK
              have cB := hv2.cell
              have cA := bA2.cell
              have cM := bM2.cell
              clear hp2
              have hcs : cs = L := by rw [HL.out, HCS.out]
              have Q1 := Lib.hid (fun q => show Calls Tryd.prog 11 #[v2, .slice a2 n c2] (Y.drewN q) (fun e w' => e = .returned (.bool true) ∧ ∃ r, w' = Y.drewN r) from (same_any cs L v2 _ (Y.drewN q) (RB.out.later (below_drewN (Below.refl _ Y) q)) (RL.out.later (below_drewN (Below.refl _ Y) q)) true (by simp [hcs])).mono fun e w' ⟨h, r, h2⟩ => ⟨h, q + r, by rw [← h2, World.drewN_drewN]⟩)
              have hpm : (min (m : Int) (n : Int)).toNat = n := by rw [HN.out, HL.out, HCS.out]; omega
              have Q2 := Lib.hid (fun q => show Calls Tryd.prog 11 #[v, .slice a2 (min (m : Int) (n : Int)).toNat c2] (Y.drewN q) (fun e w' => e = .returned (.bool true) ∧ ∃ r, w' = Y.drewN r) from by rw [hpm]; exact (same_any (cs.take cs.length) L v _ (Y.drewN q) (RA.out.later (below_drewN (Below.refl _ Y) q)) (RL.out.later (below_drewN (Below.refl _ Y) q)) true (by simp [hcs])).mono fun e w' ⟨h, r, h2⟩ => ⟨h, q + r, by rw [← h2, World.drewN_drewN]⟩)
              clear hcs hpm
              have hDD := Lib.hid (show D < D2 from Nat.lt_of_lt_of_le (Array.getElem?_eq_some_iff.1 hK).1 hD2)
              have HWB := Lib.hid (show Below w.heap.size w Y from K.trans (hBY.mono (by rw [← HG.out]; exact K.size)))
              have HDG := Lib.hid (show w.heap.size ≤ D by have := K.size; have := HG.out; have := hV; omega)
              have HK1 := Lib.hid hK1
              have HK2 := Lib.hid hK2
              have hmn : (n : Int) < (m : Int) := by rw [HN.out, HL.out, HCS.out]; omega
              have hc2' : (n : Int) ≤ (c2 : Int) := by omega
              clear hF hv hrow hrow2 hv2 bMX bUX bBX SX SQ SQ2 bA2 bM2
              clear S2 IQ MTH HS HW wX RA RL RB hK1 hK2 hBY hB hb0 bB bA bU bM hp HMM HCS HG hi0 hz0 hz1 hz2 R2 HM HL HN h2 hkm hlen hK
              gi_upto_region 23 with fail
              refine wpIn_region_quiet_lit rfl (by kernel_rfl) (by kernel_rfl) ?_
              iterate 11 (gi_big_quiet_step (exact callsIn_wide.2 (Q1.out _)))
              iterate 3 (gi_big_quiet_step (exact callsIn_wide.2 (Q2.out _)))
              refine wpQuietIn_nil ?_
              intro _ hw'
              obtain ⟨nq, hw''⟩ := hw'
              subst hw''
              clear Q1 Q2 cA cB cM
              gi_wp2_with fail
              have HK3 := Lib.hid (show ((Y.drewN nq).putObj D2 (.deferred none)).heap[D]? = some (.deferred (some [])) from (World.putObj_heap_other (by have := hDD.out; omega)).trans HK1.out)
              refine ⟨by simp, .inl ⟨_, _, rfl, run_takeDeferred HK2.out, ?_⟩⟩
              first
                | refine ⟨by simp, .inl ⟨_, _, rfl, run_takeDeferred HK3.out, ?_⟩⟩
                | refine .inl ⟨_, _, rfl, run_takeDeferred HK3.out, ?_⟩
              have B1 := below_drewN HWB.out nq
              have B2 := B1.grown (grownBy_putObj' _ D2 (.deferred none)) B1.size (fun k e => by cases e; have := HDG.out; have := hDD.out; omega)
              exact ⟨_, results_tmp rfl _ _ _, rfl, B2.grown (grownBy_putObj' _ D _) B2.size (fun k e => by cases e; exact HDG.out)⟩
            case stop2 =>
              rintro D2 c2 k2 Y hD2 hk2 h hK2
              exact h.elim
          case stop =>
            rintro D c k X hD hk ⟨⟨rfl, hkm⟩, bMX, bUX, bBX, ⟨v, hv, hrow, -⟩, hB⟩ hK
            have hp := Lib.hid (show k = min m cs.length by omega)
            have SX := Lib.hid (HS.out.later (by rw [HG.out]; exact hB))
            have wX := HW.out.below (W' := X) (by rw [HG.out]; exact hB)
            have SQ2 := each_seq 11 (G + 1) a0 X (by omega) bUX.lt wX bUX.cell
            rw [HCS.out] at SQ2
            have hX4 : G + 4 ≤ X.heap.size := by have := bBX.lt; omega
            gi_wp2_with fail
            refine rangeO rfl (by decide) (gf := 24) (lb := #[.pointer (some ⟨G + 1, 0, none⟩)]) rfl trivial (enters_of Tryd.func24 (by kernel_rfl) rfl)
              SQ2 (Below.refl _ _) (fun l o h1 h2 h3 h => by
                rcases h with h | h | ⟨_, _, _, rfl⟩
                · omega
                · omega
                · cases h3) (fun _ => rfl)
              (fun k W => FixO X.heap.size (G + 1 + 1 + 1) X W ∧ (∃ v, Boxed W (G + 1 + 1 + 1) 23 v ∧ W.ownsRow X.heap.size 9 1 v k (strs (cs.take k)) ∧ True) ∧ Below G wc W)
              (fun c k W => False)
              (OwnFrom.and (fix_own _ _ _) (OwnFrom.and (Own.from (holdsRow_own X.heap.size (G + 1 + 1 + 1) _ _ 1 (fun k => k) (fun k => strs (cs.take k)) (fun _ _ => True)) _) (ownFrom_below (by rw [HG.out]; exact Nat.le_refl _) (by omega))))
              (fun c => ownFrom_pure _ (fun _ => False))
              ⟨⟨Nat.le_refl _, fun _ _ _ => rfl⟩, ⟨_, bBX, World.ownsRow_nil _ _ _ _, trivial⟩, hB⟩ ?round2 ?done2 ?stop2
            case round2 =>
              intro lr2 k2 V0 hlr2 hk2'
              gi_wp2
              refine ⟨rfl, ?_⟩
              rintro Y ⟨hF, ⟨v2, hv2, hrow2, -⟩, hBY⟩
              have hc := hv2.cell
              have htk := Lib.hid (take_next cs k2 hk2')
              have hYs := hBY.size
              have hYX := hF.1
              gi_wp2_with (gi_at_builtin; refine wpListIn_append_own _ rfl _ _ 23 rfl X.heap.size 9 i0 (.string ⟨#[]⟩) 1 16 Tryd.underlying23 hi0 hz0 hz1 hz2 rfl (by decide) _ _ _ rfl (hrow2.alloc _) ⟨Y.heap.size, 0, none⟩ 1 1 [.string cs[k2]] rfl rfl (cell_one_new _ _ _) (by simp [Value.oneCell']) (by unfold maxLen; omega) (by omega) (by have := hv2.lt; simp; omega) ?_; intro v' w1 hown' hgrow _; obtain ⟨g', cap', rfl⟩ := ownsRow_succ hown'; obtain ⟨hv1, hv2n, -, hk2, hb2⟩ := hv2.appended (show 23 ≠ 9 by decide) (own_le hrow2 (show G ≤ X.heap.size by omega)) (show G ≤ Y.heap.size by omega) (show G ≤ G + 1 + 1 + 1 by omega) (own_le hown' (show G ≤ X.heap.size by omega)) hgrow; have hr2 := hown'.kept (grownBy_setCell' w1 (G + 1 + 1 + 1) (.slice (some ⟨g', 0, none⟩) (k2 + 1) cap')) (.inr (hv1.not_row (show 23 ≠ 9 by decide) hown').symm); have kb2 := app_keep (D := X.heap.size) (B := G + 1 + 1 + 1) (bu := G + 1) (v' := .slice (some ⟨g', 0, none⟩) (k2 + 1) cap') (by omega) (by omega) (by omega) (by omega) (show 23 ≠ 44 by decide) hv2 (show 23 ≠ 9 by decide) hrow2 hgrow; have hF2 := Lib.hid (fix_app (e := G + 1 + 1 + 1) (v' := .slice (some ⟨g', 0, none⟩) (k2 + 1) cap') hF hrow2 hgrow); have hc1 := hv1.cell; have hf1 := hv1.frozen; have HR2 := Lib.hid hr2; have HBB := Lib.hid hb2; clear hown' hgrow hr2 hb2 hrow2 hv2)
              exact ⟨⟨hk2.from _, kb2⟩, hF2.out, ⟨_, hv2n, by rw [htk.out]; exact HR2.out, trivial⟩, hBY.trans HBB.out⟩
            case done2 =>
              rintro D2 Y hD2 ⟨hF, ⟨v2, hv2, hrow2, -⟩, hBY⟩ hK2
              have hp2 : (cs.take k).length = k := by rw [List.length_take]; omega
              have bA2 : Boxed Y (G + 1 + 1) 23 v := (hF.2 _ (by omega) (by omega)).trans hv
              have bM2 : Boxed Y G 3 (.int .i64 (m : Int)) := (hF.2 _ (by omega) (by omega)).trans bMX
              have RA := Lib.hid (fix_reads (L := cs.take k) hF (by rw [hp2]; exact hrow) (by omega) (by omega))
              have RB := Lib.hid (reads_owns (L := cs) (by have := hrow2; rw [List.take_length] at this; exact this) (by omega))
              have RL := Lib.hid (HS.out.later (W' := Y) (by rw [HG.out]; exact hBY))
              have hK1 : Y.heap[D]? = some (.deferred (some [])) := (hF.2 D (Array.getElem?_eq_some_iff.1 hK).1 (by omega)).trans hK
              have cB := hv2.cell
              have cA := bA2.cell
              have cM := bM2.cell
              clear hp2
              have hcs : cs = L := by rw [HL.out, HCS.out]
              have Q1 := Lib.hid (fun q => show Calls Tryd.prog 11 #[v2, .slice a2 n c2] (Y.drewN q) (fun e w' => e = .returned (.bool true) ∧ ∃ r, w' = Y.drewN r) from (same_any cs L v2 _ (Y.drewN q) (RB.out.later (below_drewN (Below.refl _ Y) q)) (RL.out.later (below_drewN (Below.refl _ Y) q)) true (by simp [hcs])).mono fun e w' ⟨h, r, h2⟩ => ⟨h, q + r, by rw [← h2, World.drewN_drewN]⟩)
              have hpn : k ≤ n := by rw [HN.out, HL.out, HCS.out]; exact hk
              have hpm : (min (m : Int) (n : Int)).toNat = k := by omega
              have Q2 := Lib.hid (fun q => show Calls Tryd.prog 11 #[v, .slice a2 (min (m : Int) (n : Int)).toNat c2] (Y.drewN q) (fun e w' => e = .returned (.bool true) ∧ ∃ r, w' = Y.drewN r) from by rw [hpm]; exact (same_any (cs.take k) (L.take k) v _ (Y.drewN q) (RA.out.later (below_drewN (Below.refl _ Y) q)) (reads_take (RL.out.later (below_drewN (Below.refl _ Y) q)) HN.out hpn) true (by simp [hcs])).mono fun e w' ⟨h, r, h2⟩ => ⟨h, q + r, by rw [← h2, World.drewN_drewN]⟩)
              clear hcs hpm
              have hDD := Lib.hid (show D < D2 from Nat.lt_of_lt_of_le (Array.getElem?_eq_some_iff.1 hK).1 hD2)
              have HWB := Lib.hid (show Below w.heap.size w Y from K.trans (hBY.mono (by rw [← HG.out]; exact K.size)))
              have HDG := Lib.hid (show w.heap.size ≤ D by have := K.size; have := HG.out; have := hV; omega)
              have HK1 := Lib.hid hK1
              have HK2 := Lib.hid hK2
              have hmn : (m : Int) ≤ (n : Int) := by omega
              have hc2' : (n : Int) ≤ (c2 : Int) := by omega
              clear hF hv hrow hrow2 hv2 bMX bUX bBX SX SQ SQ2 bA2 bM2
              clear S2 IQ MTH HS HW wX RA RL RB hK1 hK2 hBY hB hb0 bB bA bU bM hp HMM HCS HG hi0 hz0 hz1 hz2 R2 HM HL HN h2 hkm hlen hK hpn hk
              gi_upto_region 23 with fail
              refine wpIn_region_quiet_lit rfl (by kernel_rfl) (by kernel_rfl) ?_
              iterate 11 (gi_big_quiet_step (exact callsIn_wide.2 (Q1.out _)))
              iterate 3 (gi_big_quiet_step (exact callsIn_wide.2 (Q2.out _)))
              refine wpQuietIn_nil ?_
              intro _ hw'
              obtain ⟨nq, hw''⟩ := hw'
              subst hw''
              clear Q1 Q2 cA cB cM
              gi_wp2_with fail
              have HK3 := Lib.hid (show ((Y.drewN nq).putObj D2 (.deferred none)).heap[D]? = some (.deferred (some [])) from (World.putObj_heap_other (by have := hDD.out; omega)).trans HK1.out)
              refine ⟨by simp, .inl ⟨_, _, rfl, run_takeDeferred HK2.out, ?_⟩⟩
              first
                | refine ⟨by simp, .inl ⟨_, _, rfl, run_takeDeferred HK3.out, ?_⟩⟩
                | refine .inl ⟨_, _, rfl, run_takeDeferred HK3.out, ?_⟩
              have B1 := below_drewN HWB.out nq
              have B2 := B1.grown (grownBy_putObj' _ D2 (.deferred none)) B1.size (fun k e => by cases e; have := HDG.out; have := hDD.out; omega)
              exact ⟨_, results_tmp rfl _ _ _, rfl, B2.grown (grownBy_putObj' _ D _) B2.size (fun k e => by cases e; exact HDG.out)⟩
            case stop2 =>
              rintro D2 c2 k2 Y hD2 hk2 h hK2
              exact h.elim
abbrev laidL : List (String × DataW Unit) := Rows.candRowRow.laid
theorem door_met (os : Os) (args : Array Value) : laidMetH Tryd.prog laidL ((World.doorLaid Tryd.prog 400 os).forCall (fun _ _ => 0) ⟨#[], args, []⟩).memory :=
  laidMetH_of_parts3 (fuel := 8) (laidMet_of_run' 8 (by kernel_rfl) (by kernel_rfl)) (by kernel_rfl) (by kernel_rfl)
set_option maxRecDepth 100000 in
theorem lifted (os : Os) (started : os.Started) (H : Type) (enc : TypeId × Value → H) :
    ReturnsInHanded {} Tryd.checked os 6 .any (fun w args => (Rows.candRowSpec.pre enc Tryd.prog Tryd.f6 [] false w args ∧ laidMetH Tryd.prog laidL w) ∧ sizedMet enc Tryd.prog Tryd.f6 (OpenSpec.ofChange Rows.candRowSpec) false w args)
      (Rows.candRowSpec.post enc Tryd.prog Tryd.f6 false true false false) := by
  refine returnsInHanded_of_change_and (C := Tryd.checked) (X := fun w _ => laidMetH Tryd.prog laidL w) (fun _ _ _ hh h => h.of_heap hh) own started (by kernel_rfl) Tryd.func6
    (ChangeSpec.witness_shaped (enc := enc) (C := Tryd.checked) (os := os) (X := fun w _ => laidMetH Tryd.prog laidL w) false (World.doorLaid Tryd.prog 400 os) #[.string ByteArray.empty, .int .u16 0] 8 rfl (World.shaped_of_RefB (by kernel_rfl) (by kernel_rfl)) (by kernel_rfl) (by kernel_rfl) (by kernel_rfl) (door_met os _)) ?_
  intro W base args ds gs before hval0 hW _ _ hL _
  have hval : ∀ (j : Nat) t v, Tryd.f6.params[j]? = some t → args[j]? = some v → Value.okWide Tryd.prog W .any base t v := hval0
  have hW' := hW
  obtain ⟨p, q, hA0, hV, rfl, hfz, hnd⟩ := hW
  have hA : DataW.TrodAll enc Tryd.prog W 0 (fun _ => true) true Tryd.f6.params.toList args.toList ds p := hA0
  rw [Tryd.params6] at hA hval
  obtain ⟨v0, vs0, d0, ds0, p0, q0, hargs, rfl, rfl, h0, r0⟩ := trodAll_cons hA
  obtain ⟨v1, vs1, d1, ds1, p1, q1, rfl, rfl, rfl, h1, r1⟩ := trodAll_cons r0
  obtain ⟨rfl, rfl, rfl⟩ := trodAll_nil r1
  obtain rfl : args = #[v0, v1] := by cases args; simp_all
  obtain ⟨rfl, rfl⟩ := trodVars_none hV
  obtain ⟨a0, rfl, rfl, rfl, w0⟩ := open_string Tryd.underlying9 (hval 0 9 v0 rfl rfl) h0
  obtain ⟨a1, rfl, rfl, rfl, w1⟩ := open_int Tryd.underlying30 (hval 1 30 v1 rfl rfl) h1
  clear hA0 hval0
  simp only [List.append_nil] at hW'
  refine (walk a0 a1 w0 w1 W (CT.of_laid hL)).mono fun e W' ⟨he, hg⟩ => ?_
  subst he
  exact ⟨_, rfl, _, _, _, [], [], [], hW', (trodAll_cons_mk (shut_bool Tryd.underlying4 _) trodAll_mk0), (trodAll_cons_mk (shut_string Tryd.underlying9 w0) (trodAll_cons_mk (shut_int Tryd.underlying30 w1) trodAll_mk0)), rfl, hg.frame _, fun h => by cases h⟩

theorem over : Rows.candRowRow.holds Tryd.pinned (OpenSpec.ofChange Rows.candRowSpec) :=
  OpenClaim.holds_of_wide 6 Tryd.f6 rfl rfl rfl rfl rfl rfl rfl ⟨rfl, rfl, rfl, rfl, rfl⟩ rfl rfl rfl rfl rfl (by kernel_rfl) Tryd.func6 (by kernel_rfl)
    (of_decide_eq_true (by kernel_rfl)) (by unfold Func.isWrapper; first | (rw [if_pos (by decide +kernel)]; kernel_rfl) | (rw [if_neg (by decide +kernel)]; exact ⟨rfl, rfl⟩))
    (fun os started H enc _ => lifted os started H enc)


/-- ████ THE CARD ████ -/
theorem proved : Rows.CandRowCardSaid :=
  Claim7.holds_tied_plain_at .later [] [.data] true (true, "8063661ee9a3d3253c0a59e3d6b8a79ccc07b40d5ce3f1ed386fd7d7af5f8f23") false
    over (fun _ h => by cases h) (by kernel_rfl) (fun _ h => by cases h) candRow_row_tie rfl ⟨rfl, rfl⟩ (by kernel_rfl) rfl
    (fun f fn hf hfn => by
      obtain rfl : f = 6 := Option.some.inj ((show Tryd.prog.funcNamed "tombola/tombolalaw30.CandRow" = some 6 by kernel_rfl).symm.trans hf) |>.symm
      obtain rfl : fn = Tryd.f6 := (Option.some.inj (Tryd.func6.symm.trans hfn)).symm
      exact ⟨by kernel_rfl, fun j t ht => by
        rw [Tryd.params6] at ht
        have hm : t ∈ [9, 30] := by have := Array.mem_of_getElem? ht; simp at this ⊢; omega
        have hall : ([9, 30].all fun u => !Tryd.prog.wantsStandIn u) = true := by kernel_rfl
        exact (show Tryd.prog.wantsStandIn t = false by simpa using List.all_eq_true.1 hall t hm)⟩)
    (by kernel_rfl)
#print axioms proved
end Go.Proofs.YtbmifejeffgobaaDoor.candRow
