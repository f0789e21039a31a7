/- Contracts of quo.take, back: a window of a slice is written over. -/
import Derived.Test.YtepndjcncmkkkaaQuoA
import Derived.Test.YtepndjcncmkkkaaNatE
namespace Go.Proofs.QT
open Go.RowKit
open Go.Proofs
open Go.Proofs.NP
open Go.Proofs.SL
open Go.Proofs.QP
set_option linter.unusedVariables false
set_option linter.unusedSimpArgs false

theorem gtrans {w1 w2 w3 : World} {row : Option Nat} (h : w1.grownBy w2 row) (k : w2.grownBy w3 row) : w1.grownBy w3 row :=
  ⟨k.os.trans h.os, k.tape.trans h.tape, k.output.trans h.output, Nat.le_trans h.size k.size, fun j hj hne => (k.block j (Nat.lt_of_lt_of_le hj h.size) hne).trans (h.block j hj hne)⟩
theorem grefl (w : World) (row : Option Nat) : w.grownBy w row := ⟨rfl, rfl, rfl, Nat.le_refl _, fun _ _ _ => rfl⟩
theorem gbelow {w w' : World} {H g : Nat} (h : w.grownBy w' (some g)) (hH : H ≤ g) (hs : H ≤ w.heap.size) : Below H w w' :=
  (Below.refl H w).grown h hs (fun k hk => by cases hk; exact hH)

/-- the calls of package word, in naturals -/
theorem mulW (x q hi lo : Nat) (hx : x < 18446744073709551616) (hq : q < 18446744073709551616) (e1 : hi = x * q / 18446744073709551616) (e2 : lo = x * q % 18446744073709551616) (w : World) :
    Calls Try.prog 44 #[.int .u64 (x : Int), .int .u64 (q : Int)] w fun e w' => e = .returned (.tuple #[.int .u64 (hi : Int), .int .u64 (lo : Int)]) ∧ w = w' := by
  subst e1 e2
  refine (W.mul (x : Int) (q : Int) (by omega) (by omega) (by omega) (by omega) w).mono ?_
  rintro e w' ⟨rfl, rfl⟩
  exact ⟨W.ret2 (by simp) (by simp), rfl⟩
theorem addW (x y c s d : Nat) (hc : c ≤ 1) (e1 : s = (x + y + c) % 18446744073709551616) (e2 : d = (x + y + c) / 18446744073709551616) (w : World) :
    Calls Try.prog 45 #[.int .u64 (x : Int), .int .u64 (y : Int), .int .u64 (c : Int)] w fun e w' => e = .returned (.tuple #[.int .u64 (s : Int), .int .u64 (d : Int)]) ∧ w = w' := by
  subst e1 e2
  refine (W.add (x : Int) (y : Int) (c : Int) (by omega) (by omega) (by omega) (by omega) w).mono ?_
  rintro e w' ⟨rfl, rfl⟩
  have : W.cry (c : Int) = c := by unfold W.cry; omega
  rw [this]
  exact ⟨W.ret2 (by simp) (by simp), rfl⟩
theorem subW (x y c s d : Nat) (hx : x < 18446744073709551616) (hy : y < 18446744073709551616) (hc : c ≤ 1) (e1 : s = (x + 18446744073709551616 - y - c) % 18446744073709551616) (e2 : d = if x < y + c then 1 else 0) (w : World) :
    Calls Try.prog 54 #[.int .u64 (x : Int), .int .u64 (y : Int), .int .u64 (c : Int)] w fun e w' => e = .returned (.tuple #[.int .u64 (s : Int), .int .u64 (d : Int)]) ∧ w = w' := by
  refine (W.sub (x : Int) (y : Int) (c : Int) (by omega) (by omega) (by omega) (by omega) (by omega) w).mono ?_
  rintro e w' ⟨rfl, rfl⟩
  have : W.cry (c : Int) = c := by unfold W.cry; omega
  rw [this]
  refine ⟨W.ret2 (by omega) ?_, rfl⟩
  unfold W.bor
  rw [e2]
  split <;> split <;> first | rfl | omega

/-- what holds while a window is written over -/
structure Win (B g cap : Nat) (pre ws post : List Nat) (n i : Nat) (w wr : World) (vs : List Nat) : Prop where
  len : vs.length = n + 1
  tail : ∀ j, i ≤ j → vs[j]? = ws[j]?
  own : Own 36 B wr (some ⟨g, 0, none⟩) cap (pre ++ vs ++ post)
  gr : w.grownBy wr (some g)

theorem Win.cell {B g cap : Nat} {pre ws post : List Nat} {n i : Nat} {w wr : World} {vs : List Nat} (E : Win B g cap pre ws post n i w wr vs) (hi : i ≤ n) (lw : ws.length = n + 1) (o : Nat) (lo : pre.length = o) :
    wr.cell? ⟨g, o + i, none⟩ = some (.int .u64 (ws[i]?.getD 0 : Nat)) := by
  subst lo
  rw [E.own.cell (pre.length + i) (by simp [E.len]; omega), mid_get _ _ _ _ (by rw [E.len]; omega)]
  have h := E.tail i (Nat.le_refl _)
  rw [List.getElem?_eq_getElem (by rw [E.len]; omega)] at h
  rw [← h]; rfl
theorem Win.next {B g cap : Nat} {pre ws post : List Nat} {n i : Nat} {w wr : World} {vs : List Nat} (E : Win B g cap pre ws post n i w wr vs) (hi : i ≤ n) (o : Nat) (lo : pre.length = o) (v : Nat) (hv : v < 18446744073709551616) :
    Win B g cap pre ws post n (i + 1) w (wr.setCell ⟨g, o + i, none⟩ (.int .u64 (v : Int))) (vs.set i v) ∧ V ((vs.set i v).take (i + 1)) = V (vs.take i) + v * 18446744073709551616 ^ i := by
  subst lo
  have hl : i < vs.length := by rw [E.len]; omega
  have o2 := E.own.store (pre.length + i) v hv
  rw [mid_set _ _ _ _ _ hl] at o2
  refine ⟨⟨by rw [List.length_set]; exact E.len, fun j hj => ?_, o2.1, gtrans E.gr o2.2⟩, V_take_set _ _ _ hl⟩
  rw [List.getElem?_set_ne (by omega)]; exact E.tail j (by omega)

set_option maxHeartbeats 4000000 in
theorem take (B g cap H : Nat) (pre ws post : List Nat) (b : Option Addr) (cb o n cp : Nat) (ds : List Nat) (q : Nat) (w : World)
    (ho : Own 36 B w (some ⟨g, 0, none⟩) cap (pre ++ ws ++ post)) (hb : Sl H w b cb ds) (hH : H ≤ g) (hHw : H ≤ w.heap.size) (lo : pre.length = o) (ln : ds.length = n) (lw : ws.length = n + 1) (hn : n ≤ 100000) (hcp : n + 1 ≤ cp) (hq : q < 18446744073709551616) :
    Calls Try.prog 37 #[.slice (some ⟨g, o, none⟩) (n + 1) cp, .slice b n cb, .int .u64 (q : Int)] w fun e w' =>
      ∃ (bo : Nat) (ws' : List Nat), e = .returned (.int .u64 (bo : Int)) ∧ bo ≤ 1 ∧ ws'.length = n + 1 ∧ V ws' + V ds * q = V ws + bo * 18446744073709551616 ^ (n + 1) ∧ Own 36 B w' (some ⟨g, 0, none⟩) cap (pre ++ ws' ++ post) ∧ w.grownBy w' (some g) := by
  have wws : ∀ j (h : j < ws.length), ws[j] < 18446744073709551616 := fun j h => ho.dig _ (by simp)
  have WW := Lib.hid wws
  have WD := Lib.hid hb.dig
  have LN := Lib.hid ln
  have LW := Lib.hid lw
  have LO := Lib.hid lo
  have hsl := hb.at'
  have ho1 := ho.ge
  have hom : o + n + 1 ≤ 9223372036854775807 := by
    have h1 := ho.cap
    have h2 := ho.sl.max
    unfold maxLen at h2
    simp at h1; omega
  have E0 : Win B g cap pre ws post n 0 w w ws := ⟨lw, fun _ _ => rfl, ho, grefl _ _⟩
  clear ho hb ln lw lo wws
  go_enter Try.func37, Try.ntmps37
  go_wp2
  go_loopw [6, 7, 15] (fun s6 s7 s15 wr => ∃ (i bo ov : Nat) (vs : List Nat), s6 = .int .u64 bo ∧ s7 = .int .u64 ov ∧ s15 = .int .i64 i ∧ i ≤ n ∧ bo ≤ 1 ∧ ov < 18446744073709551616 ∧ Hid (V (vs.take i) + V (ds.take i) * q = V (ws.take i) + (ov + bo) * 18446744073709551616 ^ i) ∧ Win B g cap pre ws post n i w wr vs) (fun _ _ s _ => n - (intOf s).toNat)
  case atStart => exact ⟨0, 0, 0, ws, rfl, rfl, rfl, by omega, by omega, by omega, by simp [Hid, V, val], E0⟩
  case round =>
    obtain ⟨i, bo, ov, vs, rfl, rfl, rfl, hi, hbo, hov, HE, E⟩ := hrel
    have bel := gbelow E.gr hH hHw
    have co := E.cell hi LW.out o LO.out
    have cf := E.own.free (o + i)
    have iw : i < ws.length := by rw [LW.out]; omega
    have w0 := WW.out i iw
    have e0 : ws[i]?.getD 0 = ws[i] := by simp [iw]
    rw [e0] at co
    have VT := V_take ws i iw
    obtain ⟨y, hy⟩ : ∃ y, y = ws[i] := ⟨_, rfl⟩
    rw [← hy] at co w0 VT
    clear hy e0 iw
    by_cases hlt : i < n
    · have hid : i < ds.length := by rw [LN.out]; exact hlt
      rcases hsl with h0 | ⟨b1, o1, rfl, hb1, hc1⟩
      · rw [h0] at hid; simp at hid
      have c1 : wr.cell? ⟨b1, o1 + i, none⟩ = some (.int .u64 (ds[i] : Nat)) := by rw [bel.cell (p := ⟨b1, o1 + i, none⟩) hb1]; exact hc1 i hid
      have wx := WD.out.get i hid
      have VD := V_take ds i hid
      obtain ⟨x, hx⟩ : ∃ x, x = ds[i] := ⟨_, rfl⟩
      rw [← hx] at c1 wx VD
      clear hx hc1 hid
      obtain ⟨hg, hhi⟩ : ∃ t, t = x * q / 18446744073709551616 := ⟨_, rfl⟩
      obtain ⟨lo, hlo⟩ : ∃ t, t = x * q % 18446744073709551616 := ⟨_, rfl⟩
      obtain ⟨l2, hl2⟩ : ∃ t, t = (lo + ov + 0) % 18446744073709551616 := ⟨_, rfl⟩
      obtain ⟨c, hc⟩ : ∃ t, t = (lo + ov + 0) / 18446744073709551616 := ⟨_, rfl⟩
      obtain ⟨v, hv⟩ : ∃ t, t = (y + 18446744073709551616 - l2 - bo) % 18446744073709551616 := ⟨_, rfl⟩
      obtain ⟨d, hd⟩ : ∃ t, t = if y < l2 + bo then 1 else 0 := ⟨_, rfl⟩
      have bl2 : l2 < 18446744073709551616 := by omega
      have bv : v < 18446744073709551616 := by omega
      have bd : d ≤ 1 := by rw [hd]; split <;> omega
      have q1 : x * q = hg * 18446744073709551616 + lo := by rw [hhi, hlo, Nat.mul_comm _ 18446744073709551616]; exact (Nat.div_add_mod _ _).symm
      have q2 : lo + ov = l2 + c * 18446744073709551616 := by omega
      have q3 : v + l2 + bo = y + d * 18446744073709551616 := by rw [hd]; split <;> omega
      have bov := over_lt 18446744073709551616 x q ov hg lo l2 c (by decide) wx hq hov q1 q2
      have HM := Lib.hid (fun w => mulW x q hg lo wx hq hhi hlo w)
      have HA := Lib.hid (fun w => addW lo ov 0 l2 c (by omega) hl2 hc w)
      have HS := Lib.hid (fun w => subW y l2 bo v d w0 bl2 hbo hv hd w)
      have NX := E.next hi o LO.out v bv
      have HE2 : Hid (V ((vs.set i v).take (i + 1)) + V (ds.take (i + 1)) * q = V (ws.take (i + 1)) + ((hg + c) + d) * 18446744073709551616 ^ (i + 1)) := by
        rw [Hid, NX.2, VD, VT, Nat.pow_succ]
        exact take_step _ _ _ _ _ _ _ _ _ _ _ _ _ _ _ _ HE.out q1 q2 q3
      have NW := Lib.hid NX.1
      clear NX VD VT hhi hlo hl2 hc hv hd q1 q2 q3 HE E bel
      go_wp2_with fail
      refine (HM.out _).mono ?_; rintro e1 w1 ⟨rfl, rfl⟩
      go_wp2_with fail
      refine (HA.out _).mono ?_; rintro e1 w1 ⟨rfl, rfl⟩
      go_wp2_with fail
      refine (HS.out _).mono ?_; rintro e1 w1 ⟨rfl, rfl⟩
      go_wp2_with fail
      go_roundw
      case rel => exact ⟨i + 1, d, hg + c, vs.set i v, by go_num, by go_num, by go_num, by omega, bd, bov, HE2, NW.out⟩
      case measure => simp [intOf]; omega
    · obtain rfl : i = n := by omega
      obtain ⟨v, hv⟩ : ∃ t, t = (y + 18446744073709551616 - ov - bo) % 18446744073709551616 := ⟨_, rfl⟩
      obtain ⟨d, hd⟩ : ∃ t, t = if y < ov + bo then 1 else 0 := ⟨_, rfl⟩
      have bv : v < 18446744073709551616 := by omega
      have bd : d ≤ 1 := by rw [hd]; split <;> omega
      have q3 : v + ov + bo = y + d * 18446744073709551616 := by rw [hd]; split <;> omega
      have HS := Lib.hid (fun w => subW y ov bo v d w0 hov hbo hv hd w)
      have NX := E.next hi o LO.out v bv
      have hl2 : (vs.set i v).length = i + 1 := by simp [E.len]
      have HE2 : V (vs.set i v) + V ds * q = V ws + d * 18446744073709551616 ^ (i + 1) := by
        have t1 : (vs.set i v).take (i + 1) = vs.set i v := List.take_of_length_le (by omega)
        have t2 : ds.take i = ds := List.take_of_length_le (by rw [LN.out]; exact Nat.le_refl _)
        have t3 : ws.take (i + 1) = ws := List.take_of_length_le (by rw [LW.out]; exact Nat.le_refl _)
        have a1 := NX.2
        have a2 := HE.out
        rw [t1] at a1
        rw [t2] at a2
        rw [t3] at VT
        rw [a1, VT, Nat.pow_succ]
        exact take_end _ _ _ _ _ _ _ _ _ _ _ a2 q3
      have HF := Lib.hid (show ∃ (bo : Nat) (ws' : List Nat), Ending.returned (.int .u64 (d : Int)) = .returned (.int .u64 (bo : Int)) ∧ bo ≤ 1 ∧ ws'.length = i + 1 ∧ V ws' + V ds * q = V ws + bo * 18446744073709551616 ^ (i + 1) ∧ Own 36 B (wr.setCell ⟨g, o + i, none⟩ (.int .u64 (v : Int))) (some ⟨g, 0, none⟩) cap (pre ++ ws' ++ post) ∧ w.grownBy (wr.setCell ⟨g, o + i, none⟩ (.int .u64 (v : Int))) (some g) from
        ⟨d, vs.set i v, rfl, bd, hl2, HE2, NX.1.own, NX.1.gr⟩)
      clear NX VT hv hd q3 HE E bel HE2 hl2 E0
      go_wp2_with fail
      refine (HS.out _).mono ?_; rintro e1 w1 ⟨rfl, rfl⟩
      go_wp2_with fail
      go_ret
      exact HF.out

set_option maxHeartbeats 4000000 in
theorem back (B g cap H : Nat) (pre ws post : List Nat) (b : Option Addr) (cb o n cp : Nat) (ds : List Nat) (w : World)
    (ho : Own 36 B w (some ⟨g, 0, none⟩) cap (pre ++ ws ++ post)) (hb : Sl H w b cb ds) (hH : H ≤ g) (hHw : H ≤ w.heap.size) (lo : pre.length = o) (ln : ds.length = n) (lw : ws.length = n + 1) (hn : n ≤ 100000) (hcp : n + 1 ≤ cp) :
    Calls Try.prog 38 #[.slice (some ⟨g, o, none⟩) (n + 1) cp, .slice b n cb] w fun e w' =>
      ∃ (c : Nat) (ws' : List Nat), e = .returned (.int .u64 (c : Int)) ∧ c ≤ 1 ∧ ws'.length = n + 1 ∧ V ws' + c * 18446744073709551616 ^ (n + 1) = V ws + V ds ∧ Own 36 B w' (some ⟨g, 0, none⟩) cap (pre ++ ws' ++ post) ∧ w.grownBy w' (some g) := by
  have wws : ∀ j (h : j < ws.length), ws[j] < 18446744073709551616 := fun j h => ho.dig _ (by simp)
  have WW := Lib.hid wws
  have WD := Lib.hid hb.dig
  have LN := Lib.hid ln
  have LW := Lib.hid lw
  have LO := Lib.hid lo
  have hsl := hb.at'
  have ho1 := ho.ge
  have hom : o + n + 1 ≤ 9223372036854775807 := by
    have h1 := ho.cap
    have h2 := ho.sl.max
    unfold maxLen at h2
    simp at h1; omega
  have E0 : Win B g cap pre ws post n 0 w w ws := ⟨lw, fun _ _ => rfl, ho, grefl _ _⟩
  clear ho hb ln lw lo wws
  go_enter Try.func38, Try.ntmps38
  go_wp2
  go_loopw [4, 9] (fun s4 s9 wr => ∃ (i c : Nat) (vs : List Nat), s4 = .int .u64 c ∧ s9 = .int .i64 i ∧ i ≤ n ∧ c ≤ 1 ∧ Hid (V (vs.take i) + c * 18446744073709551616 ^ i = V (ws.take i) + V (ds.take i)) ∧ Win B g cap pre ws post n i w wr vs) (fun _ s _ => n - (intOf s).toNat)
  case atStart => exact ⟨0, 0, ws, rfl, rfl, by omega, by omega, by simp [Hid, V, val], E0⟩
  case round =>
    obtain ⟨i, c, vs, rfl, rfl, hi, hc, HE, E⟩ := hrel
    have bel := gbelow E.gr hH hHw
    have co := E.cell hi LW.out o LO.out
    have cf := E.own.free (o + i)
    have iw : i < ws.length := by rw [LW.out]; omega
    have w0 := WW.out i iw
    have e0 : ws[i]?.getD 0 = ws[i] := by simp [iw]
    rw [e0] at co
    have VT := V_take ws i iw
    obtain ⟨y, hy⟩ : ∃ y, y = ws[i] := ⟨_, rfl⟩
    rw [← hy] at co w0 VT
    clear hy e0 iw
    by_cases hlt : i < n
    · have hid : i < ds.length := by rw [LN.out]; exact hlt
      rcases hsl with h0 | ⟨b1, o1, rfl, hb1, hc1⟩
      · rw [h0] at hid; simp at hid
      have c1 : wr.cell? ⟨b1, o1 + i, none⟩ = some (.int .u64 (ds[i] : Nat)) := by rw [bel.cell (p := ⟨b1, o1 + i, none⟩) hb1]; exact hc1 i hid
      have wx := WD.out.get i hid
      have VD := V_take ds i hid
      obtain ⟨x, hx⟩ : ∃ x, x = ds[i] := ⟨_, rfl⟩
      rw [← hx] at c1 wx VD
      clear hx hc1 hid
      obtain ⟨v, hv⟩ : ∃ t, t = (y + x + c) % 18446744073709551616 := ⟨_, rfl⟩
      obtain ⟨d, hd⟩ : ∃ t, t = (y + x + c) / 18446744073709551616 := ⟨_, rfl⟩
      have bv : v < 18446744073709551616 := by omega
      have bd : d ≤ 1 := by omega
      have q3 : y + x + c = v + d * 18446744073709551616 := by omega
      have HA := Lib.hid (fun w => addW y x c v d hc hv hd w)
      have NX := E.next hi o LO.out v bv
      have HE2 : Hid (V ((vs.set i v).take (i + 1)) + d * 18446744073709551616 ^ (i + 1) = V (ws.take (i + 1)) + V (ds.take (i + 1))) := by
        rw [Hid, NX.2, VD, VT, Nat.pow_succ]
        exact back_step _ _ _ _ _ _ _ _ _ _ HE.out q3
      have NW := Lib.hid NX.1
      clear NX VD VT hv hd q3 HE E bel
      go_wp2_with fail
      refine (HA.out _).mono ?_; rintro e1 w1 ⟨rfl, rfl⟩
      go_wp2_with fail
      go_roundw
      case rel => exact ⟨i + 1, d, vs.set i v, by go_num, by go_num, by omega, bd, HE2, NW.out⟩
      case measure => simp [intOf]; omega
    · obtain rfl : i = n := by omega
      obtain ⟨v, hv⟩ : ∃ t, t = (y + 0 + c) % 18446744073709551616 := ⟨_, rfl⟩
      obtain ⟨d, hd⟩ : ∃ t, t = (y + 0 + c) / 18446744073709551616 := ⟨_, rfl⟩
      have bv : v < 18446744073709551616 := by omega
      have bd : d ≤ 1 := by omega
      have q3 : y + 0 + c = v + d * 18446744073709551616 := by omega
      have HA := Lib.hid (fun w => addW y 0 c v d hc hv hd w)
      have NX := E.next hi o LO.out v bv
      have hl2 : (vs.set i v).length = i + 1 := by simp [E.len]
      have HE2 : V (vs.set i v) + d * 18446744073709551616 ^ (i + 1) = V ws + V ds := by
        have t1 : (vs.set i v).take (i + 1) = vs.set i v := List.take_of_length_le (by omega)
        have t2 : ds.take i = ds := List.take_of_length_le (by rw [LN.out]; exact Nat.le_refl _)
        have t3 : ws.take (i + 1) = ws := List.take_of_length_le (by rw [LW.out]; exact Nat.le_refl _)
        have a1 := NX.2
        have a2 := HE.out
        rw [t1] at a1
        rw [t2] at a2
        rw [t3] at VT
        rw [a1, VT, Nat.pow_succ]
        have := back_step _ _ _ _ _ _ _ _ _ _ a2 q3
        simpa using this
      have HF := Lib.hid (show ∃ (c : Nat) (ws' : List Nat), Ending.returned (.int .u64 (d : Int)) = .returned (.int .u64 (c : Int)) ∧ c ≤ 1 ∧ ws'.length = i + 1 ∧ V ws' + c * 18446744073709551616 ^ (i + 1) = V ws + V ds ∧ Own 36 B (wr.setCell ⟨g, o + i, none⟩ (.int .u64 (v : Int))) (some ⟨g, 0, none⟩) cap (pre ++ ws' ++ post) ∧ w.grownBy (wr.setCell ⟨g, o + i, none⟩ (.int .u64 (v : Int))) (some g) from
        ⟨d, vs.set i v, rfl, bd, hl2, HE2, NX.1.own, NX.1.gr⟩)
      clear NX VT hv hd q3 HE E bel HE2 hl2 E0
      go_wp2_with fail
      refine (HA.out _).mono ?_; rintro e1 w1 ⟨rfl, rfl⟩
      go_wp2_with fail
      go_ret
      exact HF.out
end Go.Proofs.QT
