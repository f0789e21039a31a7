/- Lesser strings: the document's. -/
import Derived.Test.YtbmifejeffgobaaDoorCandF
import Derived.Maps.AppendAt
namespace Go.Proofs.CT
open Go.RowKit
open Go.Proofs
open Go.Proofs.BT
open Go.Proofs.RO
open Go
set_option linter.unusedVariables false
set_option linter.unusedSimpArgs false
theorem cut_ne {u : ByteArray} {a n : Nat} (h1 : 1 ≤ n) (h2 : a + n ≤ u.size) : ¬ cutB u a n = u := by
  intro h
  have := congrArg ByteArray.size h
  rw [cutB, ByteArray.size_append, ByteArray.size_extract, ByteArray.size_extract] at this
  omega
/-- what has been told, and what is to come -/
structure Row (u : ByteArray) (B : Nat) (wr : World) (v : Value) (L rest : List ByteArray) (w : World) : Prop where
  all : L ++ rest = cands u
  own : wr.ownsRow B 9 1 v L.length (strs L)
  bel : Below B w wr
theorem Row.len {u : ByteArray} {B : Nat} {wr w : World} {v : Value} {L rest : List ByteArray} (h : Row u B wr v L rest w) : L.length ≤ (cands u).length := by
  rw [← h.all, List.length_append]; omega
theorem strs_snoc (L : List ByteArray) (x : ByteArray) : strs (L ++ [x]) = strs L ++ [.string x] := by simp [strs]
theorem Row.later {u : ByteArray} {B : Nat} {wr w w4 : World} {v : Value} {L rest : List ByteArray} (h : Row u B wr v L rest w) (hb : Below wr.heap.size wr w4) (hB : B ≤ wr.heap.size) : Row u B w4 v L rest w := by
  refine ⟨h.all, ?_, h.bel.trans (hb.mono hB)⟩
  refine h.own.kept (grown_of_below hb) ?_
  rcases h.own.2 with ⟨rfl, _⟩ | ⟨g, cap, cur, rfl, _⟩
  · exact .inl rfl
  · exact .inr (by simp [Value.ownBlock])
theorem Row.next {u : ByteArray} {B : Nat} {wr w w1 : World} {v v' : Value} {L rest : List ByteArray} {x : ByteArray} {o : Obj} (h : Row u B wr v L (x :: rest) w) (hB : B ≤ wr.heap.size)
    (ho : w1.ownsRow B 9 1 v' (L.length + 1) (strs L ++ [.string x])) (hg : (wr.alloc o).grownBy w1 v.ownBlock) : Row u B w1 v' (L ++ [x]) rest w := by
  refine ⟨by rw [← h.all]; simp, by rw [strs_snoc, List.length_append]; exact ho, ?_⟩
  refine ((h.bel.alloc hB o).grown hg (by simp; omega) fun k e => ?_)
  rcases h.own.2 with ⟨rfl, _⟩ | ⟨g, cap, cur, rfl, hb, _, _⟩
  · simp [Value.ownBlock] at e
  · obtain rfl : g = k := by simpa [Value.ownBlock] using e
    exact hb
set_option maxHeartbeats 8000000 in
set_option maxRecDepth 100000 in
theorem ref_each (u : ByteArray) (hs : u.size ≤ 4294967296) (hlen : (cands u).length ≤ 100000) (w : World) :
    Calls Tryd.prog 10 #[.string u] w (toldPost (cands u) w) := by
  obtain ⟨i0, hi, hz0, hz1, hz2⟩ := info_parts Tryd.info9
  cases hb : isB u with
  | false =>
    have HI := Lib.hid (is_both u hs).2
    rw [hb] at HI
    have e0 : cands u = [] := by simp [cands, hb]
    rw [e0]
    clear hb e0
    go_enter Tryd.func10, Tryd.ntmps10
    go_wp2_with fail
    refine (HI.out _).mono ?_; rintro e w4 ⟨rfl, hb4⟩
    go_wp2_with fail
    go_ret
    exact toldPost_mk rfl rfl (World.ownsRow_nil _ _ _ _) hb4
  | true =>
    have hs1 := isB_size hb
    have HI := Lib.hid (is_both u hs).2
    rw [hb] at HI
    have HB := Lib.hid hb
    have HC0 := Lib.hid (show partJ cutB u 0 ++ (partJ clearB u 0 ++ downs u 0 u.size) = cands u by rw [cands, if_pos hb])
    clear hb
    obtain ⟨B, hBE⟩ : ∃ B, w.heap.size = B := ⟨_, rfl⟩
    have HBE := Lib.hid hBE
    go_enter Tryd.func10, Tryd.ntmps10
    go_wp2_with fail
    refine (HI.out _).mono ?_; rintro e w4 ⟨rfl, hb4⟩
    rw [hBE] at hb4
    have hR0 : Row u B w4 (.slice none 0 0) [] (partJ cutB u 0 ++ (partJ clearB u 0 ++ downs u 0 u.size)) w := ⟨HC0.out, World.ownsRow_nil _ _ _ _, hb4⟩
    obtain ⟨L0, hL0⟩ : ∃ L0 : List ByteArray, [] = L0 := ⟨_, rfl⟩
    have hBs : w.heap.size = B := hBE
    clear hb4 HC0 hBE
    have main : True := trivial
    · go_wp2_with fail
      go_loopw [3, 4] (fun s3 x wr => ∃ (v : Value) (j : Nat) (sI : Int) (L : List ByteArray), v = s3 ∧ x = .int .i64 sI ∧ ((j = 0 ∧ sI = 8) ∨ (j = 1 ∧ sI = 4) ∨ (j = 2 ∧ sI = 2) ∨ (j = 3 ∧ sI = 1) ∨ (j = 4 ∧ sI = 0)) ∧ Row u B wr v L (partJ cutB u j ++ (partJ clearB u 0 ++ downs u 0 u.size)) w) (fun _ x _ => (intOf x).toNat)
      case atStart => exact ⟨_, 0, 8, [], rfl, rfl, .inl ⟨rfl, rfl⟩, hR0⟩
      case round =>
        clear hR0
        obtain ⟨v, j, sI, L, rfl, rfl, hjv, hR⟩ := hrel
        obtain ⟨tail, htail⟩ : ∃ t, t = (partJ clearB u 0 ++ downs u 0 u.size) := ⟨_, rfl⟩
        rw [← htail] at hR ⊢
        have HTL := Lib.hid htail
        clear htail
        rcases hjv with ⟨rfl, hjv⟩ | ⟨rfl, hjv⟩ | ⟨rfl, hjv⟩ | ⟨rfl, hjv⟩ | ⟨rfl, hjv⟩
        · obtain rfl : sI = 8 := by omega
          have hR1 : Row u B wr v L (rem cutB u 8 0 (u.size + 1 - 8) ++ (partJ cutB u 1 ++ tail)) w := ⟨by rw [← hR.all, partJ_next cutB u 0 (by omega), List.append_assoc]; rfl, hR.own, hR.bel⟩
          clear hR hjv
          go_wp2_with fail
          go_loopw [3, 5] (fun s3 x wq => ∃ (v : Value) (a c : Nat) (L : List ByteArray), v = s3 ∧ x = .int .i64 (a : Nat) ∧ a + c = u.size + 1 - 8 ∧ Row u B wq v L (rem cutB u 8 a c ++ (partJ cutB u 1 ++ tail)) w) (fun _ x _ => u.size + 1 - (intOf x).toNat)
          case atStart => exact ⟨_, 0, _, L, rfl, rfl, by omega, hR1⟩
          case round =>
            clear hR1
            obtain ⟨v, a, c, L, rfl, rfl, hac, hR⟩ := hrel
            by_cases hle : a + 8 ≤ u.size
            · obtain ⟨c, rfl⟩ : ∃ c', c = c' + 1 := ⟨c - 1, by omega⟩
              obtain ⟨X, hX⟩ : ∃ X, X = cutB u a 8 := ⟨_, rfl⟩
              have HC := Lib.hid (show Ret 20 #[.string u, .int .i64 (a : Int), .int .i64 8] (.tuple #[.string X, .int .i64 0]) by rw [hX]; exact .drew fun w => cut2 u a 8 w (by omega) HB.out (by omega) (by omega))
              have hBw := hR.bel.size
              have hx : ¬ X = u := by rw [hX]; exact cut_ne (by omega) (by omega)
              have hR2 : Row u B wr v L (X :: (rem cutB u 8 (a + 1) c ++ (partJ cutB u 1 ++ tail))) w := ⟨by rw [← hR.all, rem, ← hX, if_neg hx]; rfl, hR.own, hR.bel⟩
              clear hR hX
              go_wp2_with fail
              refine (HC.out _).mono ?_; rintro e w4 ⟨rfl, hb4⟩
              have hR4 := hR2.later hb4 (by omega)
              have hB4 : B ≤ w4.heap.size := by have := hb4.size; omega
              clear hR2 hb4
              go_wp2_with (at_builtin; refine wpList_append_own _ rfl _ _ 23 rfl B 9 i0 (.string ⟨#[]⟩) 1 16 Tryd.underlying23 hi hz0 hz1 hz2 rfl (by decide) _ _ _ rfl (hR4.own.alloc _) ⟨w4.heap.size, 0, none⟩ 1 1 [.string X] rfl rfl (cell_one_new _ _ _) (by simp [Value.oneCell']) (by have := hR4.len; unfold maxLen; omega) (by have := hR4.len; omega) (by simp; omega) ?_; intro v' w1 hown' hgrow _; have hR5 := hR4.next hB4 hown' hgrow; clear hown' hgrow hR4)
              go_roundw
              case rel => exact ⟨_, a + 1, c, _, rfl, by go_num, by omega, hR5⟩
              case measure => simp [intOf]; omega
            · obtain rfl : c = 0 := by omega
              have hR2 : Row u B wr v L (partJ cutB u 1 ++ tail) w := ⟨by rw [← hR.all, rem]; rfl, hR.own, hR.bel⟩
              clear hR
              go_wp2_with fail
              go_roundw
              case rel => exact ⟨_, 1, _, L, rfl, rfl, by omega, hR2⟩
              case measure => simp [intOf]
        · obtain rfl : sI = 4 := by omega
          have hR1 : Row u B wr v L (rem cutB u 4 0 (u.size + 1 - 4) ++ (partJ cutB u 2 ++ tail)) w := ⟨by rw [← hR.all, partJ_next cutB u 1 (by omega), List.append_assoc]; rfl, hR.own, hR.bel⟩
          clear hR hjv
          go_wp2_with fail
          go_loopw [3, 5] (fun s3 x wq => ∃ (v : Value) (a c : Nat) (L : List ByteArray), v = s3 ∧ x = .int .i64 (a : Nat) ∧ a + c = u.size + 1 - 4 ∧ Row u B wq v L (rem cutB u 4 a c ++ (partJ cutB u 2 ++ tail)) w) (fun _ x _ => u.size + 1 - (intOf x).toNat)
          case atStart => exact ⟨_, 0, _, L, rfl, rfl, by omega, hR1⟩
          case round =>
            clear hR1
            obtain ⟨v, a, c, L, rfl, rfl, hac, hR⟩ := hrel
            by_cases hle : a + 4 ≤ u.size
            · obtain ⟨c, rfl⟩ : ∃ c', c = c' + 1 := ⟨c - 1, by omega⟩
              obtain ⟨X, hX⟩ : ∃ X, X = cutB u a 4 := ⟨_, rfl⟩
              have HC := Lib.hid (show Ret 20 #[.string u, .int .i64 (a : Int), .int .i64 4] (.tuple #[.string X, .int .i64 0]) by rw [hX]; exact .drew fun w => cut2 u a 4 w (by omega) HB.out (by omega) (by omega))
              have hBw := hR.bel.size
              have hx : ¬ X = u := by rw [hX]; exact cut_ne (by omega) (by omega)
              have hR2 : Row u B wr v L (X :: (rem cutB u 4 (a + 1) c ++ (partJ cutB u 2 ++ tail))) w := ⟨by rw [← hR.all, rem, ← hX, if_neg hx]; rfl, hR.own, hR.bel⟩
              clear hR hX
              go_wp2_with fail
              refine (HC.out _).mono ?_; rintro e w4 ⟨rfl, hb4⟩
              have hR4 := hR2.later hb4 (by omega)
              have hB4 : B ≤ w4.heap.size := by have := hb4.size; omega
              clear hR2 hb4
              go_wp2_with (at_builtin; refine wpList_append_own _ rfl _ _ 23 rfl B 9 i0 (.string ⟨#[]⟩) 1 16 Tryd.underlying23 hi hz0 hz1 hz2 rfl (by decide) _ _ _ rfl (hR4.own.alloc _) ⟨w4.heap.size, 0, none⟩ 1 1 [.string X] rfl rfl (cell_one_new _ _ _) (by simp [Value.oneCell']) (by have := hR4.len; unfold maxLen; omega) (by have := hR4.len; omega) (by simp; omega) ?_; intro v' w1 hown' hgrow _; have hR5 := hR4.next hB4 hown' hgrow; clear hown' hgrow hR4)
              go_roundw
              case rel => exact ⟨_, a + 1, c, _, rfl, by go_num, by omega, hR5⟩
              case measure => simp [intOf]; omega
            · obtain rfl : c = 0 := by omega
              have hR2 : Row u B wr v L (partJ cutB u 2 ++ tail) w := ⟨by rw [← hR.all, rem]; rfl, hR.own, hR.bel⟩
              clear hR
              go_wp2_with fail
              go_roundw
              case rel => exact ⟨_, 2, _, L, rfl, rfl, by omega, hR2⟩
              case measure => simp [intOf]
        · obtain rfl : sI = 2 := by omega
          have hR1 : Row u B wr v L (rem cutB u 2 0 (u.size + 1 - 2) ++ (partJ cutB u 3 ++ tail)) w := ⟨by rw [← hR.all, partJ_next cutB u 2 (by omega), List.append_assoc]; rfl, hR.own, hR.bel⟩
          clear hR hjv
          go_wp2_with fail
          go_loopw [3, 5] (fun s3 x wq => ∃ (v : Value) (a c : Nat) (L : List ByteArray), v = s3 ∧ x = .int .i64 (a : Nat) ∧ a + c = u.size + 1 - 2 ∧ Row u B wq v L (rem cutB u 2 a c ++ (partJ cutB u 3 ++ tail)) w) (fun _ x _ => u.size + 1 - (intOf x).toNat)
          case atStart => exact ⟨_, 0, _, L, rfl, rfl, by omega, hR1⟩
          case round =>
            clear hR1
            obtain ⟨v, a, c, L, rfl, rfl, hac, hR⟩ := hrel
            by_cases hle : a + 2 ≤ u.size
            · obtain ⟨c, rfl⟩ : ∃ c', c = c' + 1 := ⟨c - 1, by omega⟩
              obtain ⟨X, hX⟩ : ∃ X, X = cutB u a 2 := ⟨_, rfl⟩
              have HC := Lib.hid (show Ret 20 #[.string u, .int .i64 (a : Int), .int .i64 2] (.tuple #[.string X, .int .i64 0]) by rw [hX]; exact .drew fun w => cut2 u a 2 w (by omega) HB.out (by omega) (by omega))
              have hBw := hR.bel.size
              have hx : ¬ X = u := by rw [hX]; exact cut_ne (by omega) (by omega)
              have hR2 : Row u B wr v L (X :: (rem cutB u 2 (a + 1) c ++ (partJ cutB u 3 ++ tail))) w := ⟨by rw [← hR.all, rem, ← hX, if_neg hx]; rfl, hR.own, hR.bel⟩
              clear hR hX
              go_wp2_with fail
              refine (HC.out _).mono ?_; rintro e w4 ⟨rfl, hb4⟩
              have hR4 := hR2.later hb4 (by omega)
              have hB4 : B ≤ w4.heap.size := by have := hb4.size; omega
              clear hR2 hb4
              go_wp2_with (at_builtin; refine wpList_append_own _ rfl _ _ 23 rfl B 9 i0 (.string ⟨#[]⟩) 1 16 Tryd.underlying23 hi hz0 hz1 hz2 rfl (by decide) _ _ _ rfl (hR4.own.alloc _) ⟨w4.heap.size, 0, none⟩ 1 1 [.string X] rfl rfl (cell_one_new _ _ _) (by simp [Value.oneCell']) (by have := hR4.len; unfold maxLen; omega) (by have := hR4.len; omega) (by simp; omega) ?_; intro v' w1 hown' hgrow _; have hR5 := hR4.next hB4 hown' hgrow; clear hown' hgrow hR4)
              go_roundw
              case rel => exact ⟨_, a + 1, c, _, rfl, by go_num, by omega, hR5⟩
              case measure => simp [intOf]; omega
            · obtain rfl : c = 0 := by omega
              have hR2 : Row u B wr v L (partJ cutB u 3 ++ tail) w := ⟨by rw [← hR.all, rem]; rfl, hR.own, hR.bel⟩
              clear hR
              go_wp2_with fail
              go_roundw
              case rel => exact ⟨_, 3, _, L, rfl, rfl, by omega, hR2⟩
              case measure => simp [intOf]
        · obtain rfl : sI = 1 := by omega
          have hR1 : Row u B wr v L (rem cutB u 1 0 (u.size + 1 - 1) ++ (partJ cutB u 4 ++ tail)) w := ⟨by rw [← hR.all, partJ_next cutB u 3 (by omega), List.append_assoc]; rfl, hR.own, hR.bel⟩
          clear hR hjv
          go_wp2_with fail
          go_loopw [3, 5] (fun s3 x wq => ∃ (v : Value) (a c : Nat) (L : List ByteArray), v = s3 ∧ x = .int .i64 (a : Nat) ∧ a + c = u.size + 1 - 1 ∧ Row u B wq v L (rem cutB u 1 a c ++ (partJ cutB u 4 ++ tail)) w) (fun _ x _ => u.size + 1 - (intOf x).toNat)
          case atStart => exact ⟨_, 0, _, L, rfl, rfl, by omega, hR1⟩
          case round =>
            clear hR1
            obtain ⟨v, a, c, L, rfl, rfl, hac, hR⟩ := hrel
            by_cases hle : a + 1 ≤ u.size
            · obtain ⟨c, rfl⟩ : ∃ c', c = c' + 1 := ⟨c - 1, by omega⟩
              obtain ⟨X, hX⟩ : ∃ X, X = cutB u a 1 := ⟨_, rfl⟩
              have HC := Lib.hid (show Ret 20 #[.string u, .int .i64 (a : Int), .int .i64 1] (.tuple #[.string X, .int .i64 0]) by rw [hX]; exact .drew fun w => cut2 u a 1 w (by omega) HB.out (by omega) (by omega))
              have hBw := hR.bel.size
              have hx : ¬ X = u := by rw [hX]; exact cut_ne (by omega) (by omega)
              have hR2 : Row u B wr v L (X :: (rem cutB u 1 (a + 1) c ++ (partJ cutB u 4 ++ tail))) w := ⟨by rw [← hR.all, rem, ← hX, if_neg hx]; rfl, hR.own, hR.bel⟩
              clear hR hX
              go_wp2_with fail
              refine (HC.out _).mono ?_; rintro e w4 ⟨rfl, hb4⟩
              have hR4 := hR2.later hb4 (by omega)
              have hB4 : B ≤ w4.heap.size := by have := hb4.size; omega
              clear hR2 hb4
              go_wp2_with (at_builtin; refine wpList_append_own _ rfl _ _ 23 rfl B 9 i0 (.string ⟨#[]⟩) 1 16 Tryd.underlying23 hi hz0 hz1 hz2 rfl (by decide) _ _ _ rfl (hR4.own.alloc _) ⟨w4.heap.size, 0, none⟩ 1 1 [.string X] rfl rfl (cell_one_new _ _ _) (by simp [Value.oneCell']) (by have := hR4.len; unfold maxLen; omega) (by have := hR4.len; omega) (by simp; omega) ?_; intro v' w1 hown' hgrow _; have hR5 := hR4.next hB4 hown' hgrow; clear hown' hgrow hR4)
              go_roundw
              case rel => exact ⟨_, a + 1, c, _, rfl, by go_num, by omega, hR5⟩
              case measure => simp [intOf]; omega
            · obtain rfl : c = 0 := by omega
              have hR2 : Row u B wr v L (partJ cutB u 4 ++ tail) w := ⟨by rw [← hR.all, rem]; rfl, hR.own, hR.bel⟩
              clear hR
              go_wp2_with fail
              go_roundw
              case rel => exact ⟨_, 4, _, L, rfl, rfl, by omega, hR2⟩
              case measure => simp [intOf]
        · obtain rfl : sI = 0 := by omega
          have hR0 : Row u B wr v L ((partJ clearB u 0 ++ downs u 0 u.size)) w := ⟨by rw [← hR.all, ← HTL.out]; rfl, hR.own, hR.bel⟩
          obtain ⟨L0, hL0⟩ : ∃ L0, L = L0 := ⟨_, rfl⟩
          subst hL0
          clear hR hjv HTL
          go_wp2_with fail
          go_loopw [3, 8] (fun s3 x wr => ∃ (v : Value) (j : Nat) (sI : Int) (L : List ByteArray), v = s3 ∧ x = .int .i64 sI ∧ ((j = 0 ∧ sI = 8) ∨ (j = 1 ∧ sI = 4) ∨ (j = 2 ∧ sI = 2) ∨ (j = 3 ∧ sI = 1) ∨ (j = 4 ∧ sI = 0)) ∧ Row u B wr v L (partJ clearB u j ++ downs u 0 u.size) w) (fun _ x _ => (intOf x).toNat)
          case atStart => exact ⟨_, 0, 8, L, rfl, rfl, .inl ⟨rfl, rfl⟩, hR0⟩
          case round =>
            clear hR0
            obtain ⟨v, j, sI, L, rfl, rfl, hjv, hR⟩ := hrel
            obtain ⟨tail, htail⟩ : ∃ t, t = downs u 0 u.size := ⟨_, rfl⟩
            rw [← htail] at hR ⊢
            have HTL := Lib.hid htail
            clear htail
            rcases hjv with ⟨rfl, hjv⟩ | ⟨rfl, hjv⟩ | ⟨rfl, hjv⟩ | ⟨rfl, hjv⟩ | ⟨rfl, hjv⟩
            · obtain rfl : sI = 8 := by omega
              have hR1 : Row u B wr v L (rem clearB u 8 0 (u.size + 1 - 8) ++ (partJ clearB u 1 ++ tail)) w := ⟨by rw [← hR.all, partJ_next clearB u 0 (by omega), List.append_assoc]; rfl, hR.own, hR.bel⟩
              clear hR hjv
              go_wp2_with fail
              go_loopw [3, 9] (fun s3 x wq => ∃ (v : Value) (a c : Nat) (L : List ByteArray), v = s3 ∧ x = .int .i64 (a : Nat) ∧ a + c = u.size + 1 - 8 ∧ Row u B wq v L (rem clearB u 8 a c ++ (partJ clearB u 1 ++ tail)) w) (fun _ x _ => u.size + 1 - (intOf x).toNat)
              case atStart => exact ⟨_, 0, _, L, rfl, rfl, by omega, hR1⟩
              case round =>
                clear hR1
                obtain ⟨v, a, c, L, rfl, rfl, hac, hR⟩ := hrel
                by_cases hle : a + 8 ≤ u.size
                · obtain ⟨c, rfl⟩ : ∃ c', c = c' + 1 := ⟨c - 1, by omega⟩
                  obtain ⟨X, hX⟩ : ∃ X, X = clearB u a 8 := ⟨_, rfl⟩
                  have HC := Lib.hid (show Ret 21 #[.string u, .int .i64 (a : Int), .int .i64 8] (.tuple #[.string X, .int .i64 0]) by rw [hX]; exact .drew fun w => clear2 u a 8 w hs1 HB.out (by omega) (by omega))
                  have hBw := hR.bel.size
                  by_cases hx : X = u
                  · have hR2 : Row u B wr v L (rem clearB u 8 (a + 1) c ++ (partJ clearB u 1 ++ tail)) w := ⟨by rw [← hR.all, rem, ← hX, if_pos hx]; rfl, hR.own, hR.bel⟩
                    have t1 := seq_yes hx
                    clear hR hX hx
                    go_wp2_with fail
                    refine (HC.out _).mono ?_; rintro e w4 ⟨rfl, hb4⟩
                    have hR4 := hR2.later hb4 (by omega)
                    clear hR2 hb4
                    go_wp2_with fail
                    go_roundw
                    case rel => exact ⟨_, a + 1, c, L, rfl, by go_num, by omega, hR4⟩
                    case measure => simp [intOf]; omega
                  · have t1 := seq_no hx
                    have hR2 : Row u B wr v L (X :: (rem clearB u 8 (a + 1) c ++ (partJ clearB u 1 ++ tail))) w := ⟨by rw [← hR.all, rem, ← hX, if_neg hx]; rfl, hR.own, hR.bel⟩
                    clear hR hX hx
                    go_wp2_with fail
                    refine (HC.out _).mono ?_; rintro e w4 ⟨rfl, hb4⟩
                    have hR4 := hR2.later hb4 (by omega)
                    have hB4 : B ≤ w4.heap.size := by have := hb4.size; omega
                    clear hR2 hb4
                    go_wp2_with (at_builtin; refine wpList_append_own _ rfl _ _ 23 rfl B 9 i0 (.string ⟨#[]⟩) 1 16 Tryd.underlying23 hi hz0 hz1 hz2 rfl (by decide) _ _ _ rfl (hR4.own.alloc _) ⟨w4.heap.size, 0, none⟩ 1 1 [.string X] rfl rfl (cell_one_new _ _ _) (by simp [Value.oneCell']) (by have := hR4.len; unfold maxLen; omega) (by have := hR4.len; omega) (by simp; omega) ?_; intro v' w1 hown' hgrow _; have hR5 := hR4.next hB4 hown' hgrow; clear hown' hgrow hR4)
                    go_roundw
                    case rel => exact ⟨_, a + 1, c, _, rfl, by go_num, by omega, hR5⟩
                    case measure => simp [intOf]; omega
                · obtain rfl : c = 0 := by omega
                  have hR2 : Row u B wr v L (partJ clearB u 1 ++ tail) w := ⟨by rw [← hR.all, rem]; rfl, hR.own, hR.bel⟩
                  clear hR
                  go_wp2_with fail
                  go_roundw
                  case rel => exact ⟨_, 1, _, L, rfl, rfl, by omega, hR2⟩
                  case measure => simp [intOf]
            · obtain rfl : sI = 4 := by omega
              have hR1 : Row u B wr v L (rem clearB u 4 0 (u.size + 1 - 4) ++ (partJ clearB u 2 ++ tail)) w := ⟨by rw [← hR.all, partJ_next clearB u 1 (by omega), List.append_assoc]; rfl, hR.own, hR.bel⟩
              clear hR hjv
              go_wp2_with fail
              go_loopw [3, 9] (fun s3 x wq => ∃ (v : Value) (a c : Nat) (L : List ByteArray), v = s3 ∧ x = .int .i64 (a : Nat) ∧ a + c = u.size + 1 - 4 ∧ Row u B wq v L (rem clearB u 4 a c ++ (partJ clearB u 2 ++ tail)) w) (fun _ x _ => u.size + 1 - (intOf x).toNat)
              case atStart => exact ⟨_, 0, _, L, rfl, rfl, by omega, hR1⟩
              case round =>
                clear hR1
                obtain ⟨v, a, c, L, rfl, rfl, hac, hR⟩ := hrel
                by_cases hle : a + 4 ≤ u.size
                · obtain ⟨c, rfl⟩ : ∃ c', c = c' + 1 := ⟨c - 1, by omega⟩
                  obtain ⟨X, hX⟩ : ∃ X, X = clearB u a 4 := ⟨_, rfl⟩
                  have HC := Lib.hid (show Ret 21 #[.string u, .int .i64 (a : Int), .int .i64 4] (.tuple #[.string X, .int .i64 0]) by rw [hX]; exact .drew fun w => clear2 u a 4 w hs1 HB.out (by omega) (by omega))
                  have hBw := hR.bel.size
                  by_cases hx : X = u
                  · have hR2 : Row u B wr v L (rem clearB u 4 (a + 1) c ++ (partJ clearB u 2 ++ tail)) w := ⟨by rw [← hR.all, rem, ← hX, if_pos hx]; rfl, hR.own, hR.bel⟩
                    have t1 := seq_yes hx
                    clear hR hX hx
                    go_wp2_with fail
                    refine (HC.out _).mono ?_; rintro e w4 ⟨rfl, hb4⟩
                    have hR4 := hR2.later hb4 (by omega)
                    clear hR2 hb4
                    go_wp2_with fail
                    go_roundw
                    case rel => exact ⟨_, a + 1, c, L, rfl, by go_num, by omega, hR4⟩
                    case measure => simp [intOf]; omega
                  · have t1 := seq_no hx
                    have hR2 : Row u B wr v L (X :: (rem clearB u 4 (a + 1) c ++ (partJ clearB u 2 ++ tail))) w := ⟨by rw [← hR.all, rem, ← hX, if_neg hx]; rfl, hR.own, hR.bel⟩
                    clear hR hX hx
                    go_wp2_with fail
                    refine (HC.out _).mono ?_; rintro e w4 ⟨rfl, hb4⟩
                    have hR4 := hR2.later hb4 (by omega)
                    have hB4 : B ≤ w4.heap.size := by have := hb4.size; omega
                    clear hR2 hb4
                    go_wp2_with (at_builtin; refine wpList_append_own _ rfl _ _ 23 rfl B 9 i0 (.string ⟨#[]⟩) 1 16 Tryd.underlying23 hi hz0 hz1 hz2 rfl (by decide) _ _ _ rfl (hR4.own.alloc _) ⟨w4.heap.size, 0, none⟩ 1 1 [.string X] rfl rfl (cell_one_new _ _ _) (by simp [Value.oneCell']) (by have := hR4.len; unfold maxLen; omega) (by have := hR4.len; omega) (by simp; omega) ?_; intro v' w1 hown' hgrow _; have hR5 := hR4.next hB4 hown' hgrow; clear hown' hgrow hR4)
                    go_roundw
                    case rel => exact ⟨_, a + 1, c, _, rfl, by go_num, by omega, hR5⟩
                    case measure => simp [intOf]; omega
                · obtain rfl : c = 0 := by omega
                  have hR2 : Row u B wr v L (partJ clearB u 2 ++ tail) w := ⟨by rw [← hR.all, rem]; rfl, hR.own, hR.bel⟩
                  clear hR
                  go_wp2_with fail
                  go_roundw
                  case rel => exact ⟨_, 2, _, L, rfl, rfl, by omega, hR2⟩
                  case measure => simp [intOf]
            · obtain rfl : sI = 2 := by omega
              have hR1 : Row u B wr v L (rem clearB u 2 0 (u.size + 1 - 2) ++ (partJ clearB u 3 ++ tail)) w := ⟨by rw [← hR.all, partJ_next clearB u 2 (by omega), List.append_assoc]; rfl, hR.own, hR.bel⟩
              clear hR hjv
              go_wp2_with fail
              go_loopw [3, 9] (fun s3 x wq => ∃ (v : Value) (a c : Nat) (L : List ByteArray), v = s3 ∧ x = .int .i64 (a : Nat) ∧ a + c = u.size + 1 - 2 ∧ Row u B wq v L (rem clearB u 2 a c ++ (partJ clearB u 3 ++ tail)) w) (fun _ x _ => u.size + 1 - (intOf x).toNat)
              case atStart => exact ⟨_, 0, _, L, rfl, rfl, by omega, hR1⟩
              case round =>
                clear hR1
                obtain ⟨v, a, c, L, rfl, rfl, hac, hR⟩ := hrel
                by_cases hle : a + 2 ≤ u.size
                · obtain ⟨c, rfl⟩ : ∃ c', c = c' + 1 := ⟨c - 1, by omega⟩
                  obtain ⟨X, hX⟩ : ∃ X, X = clearB u a 2 := ⟨_, rfl⟩
                  have HC := Lib.hid (show Ret 21 #[.string u, .int .i64 (a : Int), .int .i64 2] (.tuple #[.string X, .int .i64 0]) by rw [hX]; exact .drew fun w => clear2 u a 2 w hs1 HB.out (by omega) (by omega))
                  have hBw := hR.bel.size
                  by_cases hx : X = u
                  · have hR2 : Row u B wr v L (rem clearB u 2 (a + 1) c ++ (partJ clearB u 3 ++ tail)) w := ⟨by rw [← hR.all, rem, ← hX, if_pos hx]; rfl, hR.own, hR.bel⟩
                    have t1 := seq_yes hx
                    clear hR hX hx
                    go_wp2_with fail
                    refine (HC.out _).mono ?_; rintro e w4 ⟨rfl, hb4⟩
                    have hR4 := hR2.later hb4 (by omega)
                    clear hR2 hb4
                    go_wp2_with fail
                    go_roundw
                    case rel => exact ⟨_, a + 1, c, L, rfl, by go_num, by omega, hR4⟩
                    case measure => simp [intOf]; omega
                  · have t1 := seq_no hx
                    have hR2 : Row u B wr v L (X :: (rem clearB u 2 (a + 1) c ++ (partJ clearB u 3 ++ tail))) w := ⟨by rw [← hR.all, rem, ← hX, if_neg hx]; rfl, hR.own, hR.bel⟩
                    clear hR hX hx
                    go_wp2_with fail
                    refine (HC.out _).mono ?_; rintro e w4 ⟨rfl, hb4⟩
                    have hR4 := hR2.later hb4 (by omega)
                    have hB4 : B ≤ w4.heap.size := by have := hb4.size; omega
                    clear hR2 hb4
                    go_wp2_with (at_builtin; refine wpList_append_own _ rfl _ _ 23 rfl B 9 i0 (.string ⟨#[]⟩) 1 16 Tryd.underlying23 hi hz0 hz1 hz2 rfl (by decide) _ _ _ rfl (hR4.own.alloc _) ⟨w4.heap.size, 0, none⟩ 1 1 [.string X] rfl rfl (cell_one_new _ _ _) (by simp [Value.oneCell']) (by have := hR4.len; unfold maxLen; omega) (by have := hR4.len; omega) (by simp; omega) ?_; intro v' w1 hown' hgrow _; have hR5 := hR4.next hB4 hown' hgrow; clear hown' hgrow hR4)
                    go_roundw
                    case rel => exact ⟨_, a + 1, c, _, rfl, by go_num, by omega, hR5⟩
                    case measure => simp [intOf]; omega
                · obtain rfl : c = 0 := by omega
                  have hR2 : Row u B wr v L (partJ clearB u 3 ++ tail) w := ⟨by rw [← hR.all, rem]; rfl, hR.own, hR.bel⟩
                  clear hR
                  go_wp2_with fail
                  go_roundw
                  case rel => exact ⟨_, 3, _, L, rfl, rfl, by omega, hR2⟩
                  case measure => simp [intOf]
            · obtain rfl : sI = 1 := by omega
              have hR1 : Row u B wr v L (rem clearB u 1 0 (u.size + 1 - 1) ++ (partJ clearB u 4 ++ tail)) w := ⟨by rw [← hR.all, partJ_next clearB u 3 (by omega), List.append_assoc]; rfl, hR.own, hR.bel⟩
              clear hR hjv
              go_wp2_with fail
              go_loopw [3, 9] (fun s3 x wq => ∃ (v : Value) (a c : Nat) (L : List ByteArray), v = s3 ∧ x = .int .i64 (a : Nat) ∧ a + c = u.size + 1 - 1 ∧ Row u B wq v L (rem clearB u 1 a c ++ (partJ clearB u 4 ++ tail)) w) (fun _ x _ => u.size + 1 - (intOf x).toNat)
              case atStart => exact ⟨_, 0, _, L, rfl, rfl, by omega, hR1⟩
              case round =>
                clear hR1
                obtain ⟨v, a, c, L, rfl, rfl, hac, hR⟩ := hrel
                by_cases hle : a + 1 ≤ u.size
                · obtain ⟨c, rfl⟩ : ∃ c', c = c' + 1 := ⟨c - 1, by omega⟩
                  obtain ⟨X, hX⟩ : ∃ X, X = clearB u a 1 := ⟨_, rfl⟩
                  have HC := Lib.hid (show Ret 21 #[.string u, .int .i64 (a : Int), .int .i64 1] (.tuple #[.string X, .int .i64 0]) by rw [hX]; exact .drew fun w => clear2 u a 1 w hs1 HB.out (by omega) (by omega))
                  have hBw := hR.bel.size
                  by_cases hx : X = u
                  · have hR2 : Row u B wr v L (rem clearB u 1 (a + 1) c ++ (partJ clearB u 4 ++ tail)) w := ⟨by rw [← hR.all, rem, ← hX, if_pos hx]; rfl, hR.own, hR.bel⟩
                    have t1 := seq_yes hx
                    clear hR hX hx
                    go_wp2_with fail
                    refine (HC.out _).mono ?_; rintro e w4 ⟨rfl, hb4⟩
                    have hR4 := hR2.later hb4 (by omega)
                    clear hR2 hb4
                    go_wp2_with fail
                    go_roundw
                    case rel => exact ⟨_, a + 1, c, L, rfl, by go_num, by omega, hR4⟩
                    case measure => simp [intOf]; omega
                  · have t1 := seq_no hx
                    have hR2 : Row u B wr v L (X :: (rem clearB u 1 (a + 1) c ++ (partJ clearB u 4 ++ tail))) w := ⟨by rw [← hR.all, rem, ← hX, if_neg hx]; rfl, hR.own, hR.bel⟩
                    clear hR hX hx
                    go_wp2_with fail
                    refine (HC.out _).mono ?_; rintro e w4 ⟨rfl, hb4⟩
                    have hR4 := hR2.later hb4 (by omega)
                    have hB4 : B ≤ w4.heap.size := by have := hb4.size; omega
                    clear hR2 hb4
                    go_wp2_with (at_builtin; refine wpList_append_own _ rfl _ _ 23 rfl B 9 i0 (.string ⟨#[]⟩) 1 16 Tryd.underlying23 hi hz0 hz1 hz2 rfl (by decide) _ _ _ rfl (hR4.own.alloc _) ⟨w4.heap.size, 0, none⟩ 1 1 [.string X] rfl rfl (cell_one_new _ _ _) (by simp [Value.oneCell']) (by have := hR4.len; unfold maxLen; omega) (by have := hR4.len; omega) (by simp; omega) ?_; intro v' w1 hown' hgrow _; have hR5 := hR4.next hB4 hown' hgrow; clear hown' hgrow hR4)
                    go_roundw
                    case rel => exact ⟨_, a + 1, c, _, rfl, by go_num, by omega, hR5⟩
                    case measure => simp [intOf]; omega
                · obtain rfl : c = 0 := by omega
                  have hR2 : Row u B wr v L (partJ clearB u 4 ++ tail) w := ⟨by rw [← hR.all, rem]; rfl, hR.own, hR.bel⟩
                  clear hR
                  go_wp2_with fail
                  go_roundw
                  case rel => exact ⟨_, 4, _, L, rfl, rfl, by omega, hR2⟩
                  case measure => simp [intOf]
            · obtain rfl : sI = 0 := by omega
              have hR0 : Row u B wr v L (downs u 0 u.size) w := ⟨by rw [← hR.all, ← HTL.out]; rfl, hR.own, hR.bel⟩
              obtain ⟨L0, hL0⟩ : ∃ L0, L = L0 := ⟨_, rfl⟩
              subst hL0
              clear hR hjv HTL
              go_wp2_with fail
              go_loopw [3, 12] (fun s3 x wq => ∃ (v : Value) (a c : Nat) (L : List ByteArray), v = s3 ∧ x = .int .i64 (a : Nat) ∧ a + c = u.size ∧ Row u B wq v L (downs u a c) w) (fun _ x _ => u.size - (intOf x).toNat)
              case atStart => exact ⟨_, 0, _, L, rfl, rfl, by omega, hR0⟩
              case round =>
                clear hR0
                obtain ⟨v, a, c, L, rfl, rfl, hac, hR⟩ := hrel
                by_cases hle : a < u.size
                · obtain ⟨c, rfl⟩ : ∃ c', c = c' + 1 := ⟨c - 1, by omega⟩
                  have hBw := hR.bel.size
                  by_cases h49 : u[a] = 49
                  · obtain ⟨X, hX⟩ : ∃ X, X = downB u a := ⟨_, rfl⟩
                    have HC := Lib.hid (show Ret 22 #[.string u, .int .i64 (a : Int)] (.tuple #[.string X, .int .i64 0]) by rw [hX]; exact .drew fun w => down2 u a w hs1 HB.out hle h49)
                    have h3 : ((u[a].toNat : Nat) : Int) = 49 := by rw [h49]; rfl
                    have hR2 : Row u B wr v L (X :: downs u (a + 1) c) w := ⟨by rw [← hR.all, downs, dif_pos hle, if_pos h49, ← hX]; rfl, hR.own, hR.bel⟩
                    clear hR hX h49
                    go_wp2_with fail
                    refine (HC.out _).mono ?_; rintro e w4 ⟨rfl, hb4⟩
                    have hR4 := hR2.later hb4 (by omega)
                    have hB4 : B ≤ w4.heap.size := by have := hb4.size; omega
                    clear hR2 hb4
                    go_wp2_with (at_builtin; refine wpList_append_own _ rfl _ _ 23 rfl B 9 i0 (.string ⟨#[]⟩) 1 16 Tryd.underlying23 hi hz0 hz1 hz2 rfl (by decide) _ _ _ rfl (hR4.own.alloc _) ⟨w4.heap.size, 0, none⟩ 1 1 [.string X] rfl rfl (cell_one_new _ _ _) (by simp [Value.oneCell']) (by have := hR4.len; unfold maxLen; omega) (by have := hR4.len; omega) (by simp; omega) ?_; intro v' w1 hown' hgrow _; have hR5 := hR4.next hB4 hown' hgrow; clear hown' hgrow hR4)
                    go_roundw
                    case rel => exact ⟨_, a + 1, c, _, rfl, by go_num, by omega, hR5⟩
                    case measure => simp [intOf]; omega
                  · have h3 : ¬ ((u[a].toNat : Nat) : Int) = 49 := fun h => h49 (UInt8.toNat_inj.1 (by have : (49 : UInt8).toNat = 49 := rfl; omega))
                    have h4 : (((u[a].toNat : Nat) : Int) == 49) = false := by simpa using h3
                    have hR2 : Row u B wr v L (downs u (a + 1) c) w := ⟨by rw [← hR.all, downs, dif_pos hle, if_neg h49]; rfl, hR.own, hR.bel⟩
                    clear hR h49
                    go_wp2_with fail
                    go_roundw
                    case rel => exact ⟨_, a + 1, c, L, rfl, by go_num, by omega, hR2⟩
                    case measure => simp [intOf]; omega
                · obtain rfl : c = 0 := by omega
                  have hA := hR.all
                  rw [downs, List.append_nil] at hA
                  have HA := Lib.hid hA
                  clear hA
                  go_wp2_with fail
                  go_ret
                  exact toldPost_mk HBE.out rfl (by rw [← HA.out]; exact hR.own) hR.bel
end Go.Proofs.CT
