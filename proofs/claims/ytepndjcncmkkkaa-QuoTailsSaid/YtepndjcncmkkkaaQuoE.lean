/- The contract of quo.Div where the divisor has more than one limb. -/
import Derived.Test.YtepndjcncmkkkaaQuoD
import Derived.Deep.RegionHeld3
import Derived.IntWalk
namespace Go.Proofs.QT
open Go.RowKit
open Go.Proofs
open Go.Proofs.NP
open Go.Proofs.SL
open Go.Proofs.QP
set_option linter.unusedVariables false
set_option linter.unusedSimpArgs false
variable {w : World} {a b : Option Addr} {ca cb l k : Nat} {xs ys zs : List Nat}

/-- between two limbs of the quotient: k limbs of it are not yet known -/
structure DvAt (B : Nat) (gl cl gq : Nat) (N D : Nat) (orig : List Nat) (Q k : Nat) (wb wr : World) (vs qs : List Nat) : Prop where
  lv : vs.length + k = orig.length
  lq : qs.length = Q
  vlt : V vs < D
  eq : V (qs.drop k) * D + V vs = V (orig.drop k)
  ownl : Own 36 B wr (some ⟨gl, 0, none⟩) cl (orig.take k ++ vs)
  ownq : Own 36 B wr (some ⟨gq, 0, none⟩) Q qs
  bel : Below B wb wr

theorem DvAt.opened {B gl cl gq N D Q i : Nat} {orig vs qs : List Nat} {wb wr : World} (E : DvAt B gl cl gq N D orig Q (i + 1) wb wr vs qs) (hD : D ≤ 18446744073709551616 ^ N) (hi : i + N + 1 ≤ orig.length) (x : Nat) (hx : x = orig[i]'(by omega)) (hxw : x < 18446744073709551616) :
    ∃ ws post, ws.length = N + 1 ∧ post.length + (N + 1) + i = orig.length ∧ V post = 0 ∧ V ws = x + 18446744073709551616 * V vs ∧ V ws < D * 18446744073709551616 ∧ Own 36 B wr (some ⟨gl, 0, none⟩) cl (orig.take i ++ ws ++ post) := by
  have hlv := E.lv
  have hvl := E.vlt
  have hP : V (x :: vs) < D * 18446744073709551616 := by
    show x + 18446744073709551616 * V vs < _
    have : 18446744073709551616 * (V vs + 1) ≤ 18446744073709551616 * D := Nat.mul_le_mul_left _ hvl
    rw [Nat.mul_comm D]; omega
  have hws : Ws (x :: vs) := by
    intro y hy
    rcases List.mem_cons.1 hy with h | h
    · rw [h]; exact hxw
    · exact E.ownl.dig y (List.mem_append_right _ h)
  have hz : V ((x :: vs).drop (N + 1)) = 0 := by
    rw [V_drop_div hws, Nat.div_eq_of_lt]
    refine Nat.lt_of_lt_of_le hP ?_
    rw [Nat.pow_succ]; exact Nat.mul_le_mul_right _ hD
  have hv : V ((x :: vs).take (N + 1)) = x + 18446744073709551616 * V vs := by
    have e := val_append 18446744073709551616 ((x :: vs).take (N + 1)) ((x :: vs).drop (N + 1))
    rw [List.take_append_drop] at e
    have z2 : val 18446744073709551616 ((x :: vs).drop (N + 1)) = 0 := hz
    rw [z2, Nat.mul_zero, Nat.add_zero] at e
    exact e.symm
  refine ⟨(x :: vs).take (N + 1), (x :: vs).drop (N + 1), by simp; omega, by simp; omega, hz, hv, by rw [hv]; exact hP, ?_⟩
  have e : orig.take i ++ (x :: vs).take (N + 1) ++ (x :: vs).drop (N + 1) = orig.take (i + 1) ++ vs := by
    rw [List.append_assoc, List.take_append_drop, List.take_succ_eq_append_getElem (by omega), ← hx, List.append_assoc]; rfl
  rw [e]; exact E.ownl
theorem DvAt.closed {B gl cl gq N D Q i : Nat} {orig vs qs ws post : List Nat} {wb wr wn : World} (E : DvAt B gl cl gq N D orig Q (i + 1) wb wr vs qs) (hD : 0 < D) (hi : i + N + 1 ≤ orig.length) (hiq : i < Q) (x : Nat) (hx : x = orig[i]'(by omega)) (P q : Nat) (hP : P = x + 18446744073709551616 * V vs)
    (lw : ws.length = N + 1) (lp : post.length + (N + 1) + i = orig.length) (zp : V post = 0) (hq : q = P / D) (hw : V ws = P % D)
    (ol : Own 36 B wn (some ⟨gl, 0, none⟩) cl (orig.take i ++ ws ++ post)) (oq : Own 36 B wn (some ⟨gq, 0, none⟩) Q (qs.set i q)) (bl : Below B wb wn) :
    DvAt B gl cl gq N D orig Q i wb wn (ws ++ post) (qs.set i q) := by
  have hv : V (ws ++ post) = P % D := by
    have e := val_append 18446744073709551616 ws post
    have z2 : val 18446744073709551616 post = 0 := zp
    rw [z2, Nat.mul_zero, Nat.add_zero] at e
    rw [← hw]; exact e
  refine ⟨by simp; omega, by simp [E.lq], by rw [hv]; exact Nat.mod_lt _ hD, ?_, by rw [← List.append_assoc]; exact ol, oq, bl⟩
  rw [hv, V_drop_set _ _ _ (by rw [E.lq]; exact hiq), V_drop orig i (by omega), ← hx, ← E.eq, hq]
  have e := Nat.div_add_mod P D
  rw [Nat.add_mul, Nat.mul_comm (P / D), Nat.mul_add, Nat.mul_assoc]
  generalize 18446744073709551616 * (V (qs.drop (i + 1)) * D) = r at *
  omega

set_option maxRecDepth 20000 in
set_option maxHeartbeats 4000000 in
theorem div_long (hx : Rd w a ca xs) (hy : Rd w b cb ys) (lx : xs.length = l) (ly : ys.length = k) (h : l ≤ 10000) (h' : k ≤ 10000) (n : Nat) (hn : (L (V ys)).length = n + 2) (h0 : V ys ≤ V xs) (qs rs : List Nat) (hq : qs = L (V xs / V ys)) (hr : rs = L (V xs % V ys)) :
    Calls Try.prog 14 #[.slice a l ca, .slice b k cb] w (GivesQ w qs rs 0) := by
  obtain ⟨i0, hi, hz0, hz1, hz2⟩ := info_parts NT.Try.info36
  obtain ⟨es, hes⟩ : ∃ es, es = L (V xs) := ⟨_, rfl⟩
  obtain ⟨bs, hbs⟩ : ∃ bs, bs = L (V ys) := ⟨_, rfl⟩
  have HA := Lib.hid (NR.trim hx lx (by omega) hes)
  have HB := Lib.hid (fun (w1 : World) (hy : Rd w1 b cb ys) => NR.trim hy ly (by omega) hbs)
  have HY := Lib.hid hy
  have lb2 : bs.length = n + 2 := by rw [hbs]; exact hn
  obtain ⟨m, hm⟩ : ∃ m, es.length = m := ⟨_, rfl⟩
  have la : m ≤ 10000 := by have := L_V_len hx.ws; rw [← hm, hes]; omega
  have lb : n + 2 ≤ 10000 := by have := L_V_len hy.ws; omega
  have lm : n + 2 ≤ m := by
    rw [← hm, hes]
    exact digs_length_lt _ (by decide) (n + 1) _ (Nat.le_trans (L_ge _ _ hn) h0)
  obtain ⟨z, hzc, hz0'⟩ : ∃ z : Int, z = NT.cmpI (V xs) (V ys) ∧ 0 ≤ z := ⟨_, rfl, by unfold NT.cmpI; rw [if_neg (by omega)]; split <;> omega⟩
  obtain ⟨t, ht⟩ : ∃ t, t = (L (V ys))[n + 1]'(by omega) := ⟨_, rfl⟩
  have wt : t < 18446744073709551616 := by rw [ht]; exact Ws_L _ _ (List.getElem_mem _)
  obtain ⟨bl, hbl⟩ : ∃ bl, bl = bitLen t := ⟨_, rfl⟩
  have bl64 : bl ≤ 64 := by rw [hbl]; exact (bitLen_le_iff t 64).2 (by simpa using wt)
  obtain ⟨by', hby⟩ : ∃ z, z = 64 - bl := ⟨_, rfl⟩
  obtain ⟨D, hD⟩ : ∃ D, D = V ys * 2 ^ by' := ⟨_, rfl⟩
  obtain ⟨A, hA⟩ : ∃ A, A = V xs * 2 ^ by' := ⟨_, rfl⟩
  obtain ⟨ds, hds⟩ : ∃ ds, ds = L D := ⟨_, rfl⟩
  obtain ⟨ss, hss⟩ : ∃ ss, ss = L A := ⟨_, rfl⟩
  have ld : ds.length = n + 2 := by rw [hds, hD]; exact norm_len (V ys) (n + 1) t by' hn ht (by rw [hby, hbl])
  have hbc : bs[n + 1]?.getD 0 = t := by rw [hbs, ht]; simp [hn]
  have HCM := Lib.hid (fun (w1 : World) p1 c1 p2 c2 (h1 : Rd w1 p1 c1 es) (h2 : Rd w1 p2 c2 bs) => NR.cmp h1 h2 hm lb2 (by omega) (by omega) z (by rw [hzc, hes, hbs, V_L, V_L]))
  have HLN := Lib.hid (fun (w1 : World) => lenW t bl wt hbl w1)
  have HS1 := Lib.hid (fun (w1 : World) p1 c1 (h1 : Rd w1 p1 c1 bs) (zi : Int) (hzi : zi = by') => shlI (zs := ds) h1 lb2 (by omega) zi by' hzi (by omega) (by rw [hds, hbs, V_L, hD]))
  have HS2 := Lib.hid (fun (w1 : World) p1 c1 (h1 : Rd w1 p1 c1 es) (zi : Int) (hzi : zi = by') => shlI (zs := ss) h1 hm (by omega) zi by' hzi (by omega) (by rw [hss, hes, V_L, hA]))
  have HM := Lib.hid hm
  have HB2 := Lib.hid lb2
  have HDL := Lib.hid ld
  have HBC := Lib.hid hbc
  have HBY := Lib.hid hby
  have HBL := Lib.hid bl64
  have HDD := Lib.hid hD
  have HAA := Lib.hid hA
  have HDS := Lib.hid hds
  have HSS := Lib.hid hss
  have HQ := Lib.hid hq
  have HRR := Lib.hid hr
  have HN := Lib.hid hn
  have HTT := Lib.hid (show 0 < t by rw [ht]; exact top_pos _ _ hn)
  have HDT := Lib.hid wt
  have HE := Lib.hid (show es.length = m ∧ (L (V xs)).length = m from ⟨hm, by rw [← hes]; exact hm⟩)
  have HX0 := Lib.hid h0
  clear hx hy lx ly hm lb2 ld hbc hzc hby hD hA hds hss hq hr hn ht hbl hes hbs h0
  go_enter Try.func14, Try.ntmps14
  go_wp2_with fail
  refine HA.out.mono ?_
  rintro e w1 ⟨p1, c1, rfl, ho1, hb1⟩
  rw [HM.out]
  have HY1 := HY.out.nx hb1
  have HK := Lib.hid hb1
  clear HA hb1 HY
  go_wp2_with fail
  refine (HB.out w1 HY1).mono ?_
  rintro e w2 ⟨p2, c2, rfl, ho2, hb2⟩
  rw [HB2.out]
  have ha2 := Lib.hid (ho1.rd.nx hb2)
  have hb2r := Lib.hid ho2.rd
  obtain ⟨g2, rfl, _, _⟩ := ho2.some_of (by intro h; have := HB2.out; rw [h] at this; simp at this)
  have HC1 := Lib.hid (HCM.out w2 p1 c1 (some ⟨g2, 0, none⟩) c2 ha2.out hb2r.out)
  have HD1 := Lib.hid (HS1.out w2 (some ⟨g2, 0, none⟩) c2 hb2r.out)
  have hcell := ho2.cell (n + 1) (by rw [HB2.out]; omega)
  rw [HBC.out] at hcell
  have HK2 := Lib.hid (Kp.nx HK.out hb2)
  clear HB HY1 HK ho1 ho2 hb2 HCM HS1
  go_wp2_with fail
  refine HC1.out.mono ?_; rintro e w' ⟨rfl, rfl⟩
  go_wp2_with fail
  refine (HLN.out _).mono ?_; rintro e w' ⟨rfl, rfl⟩
  go_wp2_with fail
  refine (HD1.out _ (by rw [HBY.out]; omega)).mono ?_; rintro e w3 ⟨p3, c3, rfl, ho3, hb3⟩
  rw [HDL.out]
  obtain ⟨g3, rfl, hg3, hg3'⟩ := ho3.some_of (by intro h; have := HDL.out; rw [h] at this; simp at this)
  have hr3 := Lib.hid ho3.rd
  have HA3 := Lib.hid (ha2.out.nx hb3)
  have HK3 := Lib.hid (Kp.nx HK2.out hb3)
  have HE2 := Lib.hid (HS2.out w3 p1 c1 HA3.out)
  have HW := Lib.hid (show Ws ds from ho3.dig)
  clear ha2 hb2r hcell HK2 HC1 HD1 HS2 hb3 ho3 HA3
  go_wp2_with fail
  refine (HE2.out _ (by rw [HBY.out]; omega)).mono ?_; rintro e w4 ⟨p4, c4, rfl, ho4, hb4⟩
  obtain ⟨s, hs⟩ : ∃ s, ss.length = s := ⟨_, rfl⟩
  have hA2 : 0 < A := by
    rw [HAA.out]; refine Nat.mul_pos ?_ (Nat.two_pow_pos by')
    have := L_ge _ _ HN.out; have p : 0 < 18446744073709551616 ^ (n + 1) := Nat.pow_pos (by decide); have := HX0.out; omega
  have hs1 : s ≤ m + 1 := by
    rw [← hs, HSS.out, HAA.out]; exact shl_len _ _ _ HE.out.2 (by rw [HBY.out]; omega)
  have hsne : ss ≠ [] := by
    rw [HSS.out]; intro h; rw [L_nil] at h; omega
  obtain ⟨g4, rfl, hg4, hg4'⟩ := ho4.some_of hsne
  rw [hs]
  have hrow := ho4.row
  rw [hs] at hrow
  obtain ⟨g5, c5, w5, hr5, hown5, hgr5⟩ := run_append_own_zeros (P := Try.prog) w4 w3.heap.size 23 3 23 36 i0 (.int .u64 0) .i64 .i64 Try.underlying23 Try.underlying3 hi hz0 hz1 hz2 rfl rfl g4 s c4 (ss.map enc) hrow (m + 1 - s) (by omega) (by omega) hb4.size
  rw [show s + (m + 1 - s) = m + 1 by omega] at hr5 hown5
  rw [show ((m + 1 - s : Nat) : Int) = (m : Int) + 1 - (s : Int) by omega] at hr5
  have lor : (pad A (m + 1)).length = m + 1 := pad_len (by rw [← HSS.out, hs]; exact hs1)
  have ho5 : Own 36 w3.heap.size w5 (some ⟨g5, 0, none⟩) c5 (pad A (m + 1)) := by
    refine ⟨pad_ws _ _, ?_⟩
    rw [lor]
    have e : (pad A (m + 1)).map enc = ss.map enc ++ List.replicate (m + 1 - s) (.int .u64 0) := by
      unfold pad; rw [List.map_append, List.map_replicate, ← HSS.out, hs]; rfl
    rw [e]; exact hown5
  have hb35 : Below w3.heap.size w3 w5 := Below.grown hb4 hgr5 hb4.size (fun k hk => by cases hk; exact hg4)
  obtain ⟨w6, hmk, hown6, hgr6⟩ := run_make_full (P := Try.prog) w5 w5.heap.size 23 36 i0 (.int .u64 0) 1 Try.underlying23 hi hz0 hz1 .i64 .i64 (m - (n + 1)) (by rw [hz2]; omega) (by unfold maxLen; omega) (Nat.le_refl _)
  rw [Nat.mul_one, show (Value.int .u64 0).cells = #[Value.int .u64 0] from rfl, toList_madeCells_one] at hown6
  rw [show (((m - (n + 1) : Nat)) : Int) = (m : Int) - ((n : Int) + 2) + 1 by omega] at hmk
  have ho6 : Own 36 w5.heap.size w6 (some ⟨w5.heap.size, 0, none⟩) (m - (n + 1)) (List.replicate (m - (n + 1)) 0) := ⟨Dig.zeros (by decide) _, by simpa [enc] using hown6⟩
  have hb56 : Below w5.heap.size w5 w6 := (Below.refl _ _).grown hgr6 (Nat.le_refl _) (fun k hk => by cases hk)
  have g5lt : g5 < w5.heap.size := ho5.ge.2
  have g5ge : w3.heap.size ≤ g5 := ho5.ge.1
  obtain ⟨gq, hgq⟩ : ∃ g, g = w5.heap.size := ⟨_, rfl⟩
  obtain ⟨Q, hQ⟩ : ∃ Q, Q = m - (n + 1) := ⟨_, rfl⟩
  obtain ⟨orig, hor⟩ : ∃ o, o = pad A (m + 1) := ⟨_, rfl⟩
  have horw : Ws orig := by rw [hor]; exact pad_ws _ _
  have HVO := Lib.hid (show V orig = A by rw [hor]; exact pad_V _ _)
  have E0 : DvAt w3.heap.size g5 c5 gq (n + 2) D orig Q Q w3 w6 (orig.drop Q) (List.replicate Q 0) := by
    refine ⟨?_, by simp, ?_, ?_, ?_, ?_, ?_⟩
    · rw [hor]; simp [lor]; omega
    · rw [V_drop_div horw, HVO.out, HAA.out, HDD.out, hQ]; exact first_lt _ _ m (n + 1) by' HE.out.2 HN.out (by omega)
    · rw [List.drop_eq_nil_of_le (by simp)]; simp [V, val]
    · rw [List.take_append_drop, hor]; exact ho5.nx hb56
    · rw [hgq, hQ]; exact ho6.mono hb35.size
    · exact hb35.trans (hb56.mono hb35.size)
  rw [← hgq, ← hQ] at hmk
  rw [hor] at E0
  have HR5 := Lib.hid hr5
  have HMK := Lib.hid hmk
  have HQQ := Lib.hid hQ
  have HOR := Lib.hid hor
  have HLO := Lib.hid (show orig.length = m + 1 by rw [hor]; exact lor)
  have gql : g5 < gq := by rw [hgq]; exact g5lt
  rw [← hor] at E0
  have Q1 : 1 ≤ Q := by omega
  have Qm : Q ≤ m := by omega
  have Qn : Q + n + 1 ≤ m := by omega
  have Qn2 : m ≤ Q + n + 1 := by omega
  clear hr5 hmk hown5 hown6 hgr5 hgr6 ho4 ho5 ho6 hb4 hb35 hb56 hrow hsne hs hQ hor lor hgq g5lt HE2
  go_wp2_with (at_builtin; refine Lib.wpList_append_run _ rfl _ _ _ _ rfl _ _ rfl rfl _ _ HR5.out ?_)
  go_wp2_with (rw [HMK.out])
  have HDV := Lib.hid (show V ds = D by rw [HDS.out, V_L])
  have HDB := Lib.hid (show D ≤ 18446744073709551616 ^ (n + 2) by have := V_lt HW.out; rw [HDV.out, HDL.out] at this; omega)
  have HD0 := Lib.hid (show 0 < D by rw [HDD.out]; exact Nat.mul_pos (by have := L_ge _ _ HN.out; have p : 0 < 18446744073709551616 ^ (n + 1) := Nat.pow_pos (by decide); omega) (Nat.two_pow_pos by'))
  obtain ⟨td, htd⟩ : ∃ td, td = ds[n + 1]'(by rw [HDL.out]; omega) := ⟨_, rfl⟩
  have wtd : td < 18446744073709551616 := by rw [htd]; exact HW.out _ (List.getElem_mem _)
  have HT0 := Lib.hid (show 0 < td by
    rw [htd]; have e := HDS.out; have l := HDL.out
    exact top_key ds (n + 1) l (by rw [e]; exact digs_last 18446744073709551616 (by decide) D))
  have HTD := Lib.hid htd
  have HSL := Lib.hid (show Sl w3.heap.size w3 (some ⟨g3, 0, none⟩) c3 ds from hr3.out)
  have hcd : w3.cell? ⟨g3, n + 1, none⟩ = some (.int .u64 (td : Nat)) := by
    rcases hr3.out.at' with h0 | ⟨b, off, hbo, _, hc⟩
    · have := HDL.out; rw [h0] at this; simp at this
    · simp only [Option.some.injEq, Addr.mk.injEq, and_true] at hbo
      obtain ⟨rfl, rfl⟩ := hbo
      have := hc (n + 1) (by rw [HDL.out]; omega)
      rw [Nat.zero_add] at this
      rw [HTD.out]; exact this
  have HCD := Lib.hid hcd
  clear htd hcd hA2 hs1
  go_loopw [16] (fun s wr => ∃ (k : Nat) (vs qs : List Nat), s = .int .i64 ((k : Int) - 1) ∧ k ≤ Q ∧ DvAt w3.heap.size g5 c5 gq (n + 2) D orig Q k w3 wr vs qs) (fun s _ => (intOf s + 1).toNat)
  case atStart => exact ⟨Q, _, _, rfl, by omega, E0⟩
  case round =>
    obtain ⟨k, vs, us, rfl, hk, E⟩ := hrel
    clear E0
    cases k with
    | zero =>
      have e0 := E.eq
      simp only [List.drop_zero] at e0
      have hd := short_done _ _ _ _ HD0.out e0 E.vlt
      rw [HVO.out, HAA.out, HDD.out, Nat.mul_div_mul_right _ _ (Nat.two_pow_pos by'), Nat.mul_mod_mul_right] at hd
      have ow := E.ownl
      rw [List.take_zero, List.nil_append] at ow
      have lv : vs.length = m + 1 := by have := E.lv; rw [HLO.out] at this; omega
      have HS := Lib.hid (fun (zi : Int) (hzi : zi = by') => shrI (zs := rs) (l := m + 1) ow.rd lv (by omega) zi by' hzi (by rw [HBY.out]; omega) (by rw [HRR.out, hd.2, Nat.mul_div_cancel _ (Nat.two_pow_pos by')]))
      have HT := Lib.hid (fun (w1 : World) (hb : Kp wr w1) => NR.trim (zs := qs) (l := Q) (E.ownq.nx hb).rd E.lq (by omega) (by rw [HQ.out, hd.1]))
      have HKW := Lib.hid (Kp.nx HK3.out (show Kp w3 wr from E.bel))
      clear e0 hd ow lv E
      go_wp2_with fail
      refine (HS.out _ (by rw [HBY.out]; omega)).mono ?_; rintro e w9 ⟨p9, c9, rfl, ho9, hb9⟩
      have HF := Lib.hid (And.intro ho9 hb9)
      have HT1 := Lib.hid (HT.out w9 hb9)
      clear ho9 hb9 HS HT
      go_wp2_with fail
      refine HT1.out.mono ?_; rintro e w10 ⟨p10, c10, rfl, ho10, hb10⟩
      have hf := Lib.hid (show GivesQ w qs rs 0 (.returned (.tuple #[.slice p10 qs.length c10, .slice p9 rs.length c9, .int .i64 0])) w10 from
        ⟨p10, c10, p9, c9, rfl, ho10.mono (Nat.le_trans HKW.out.size HF.out.2.size), (HF.out.1.nx hb10).mono HKW.out.size, by
          intro g hg
          rcases ho10.cases with ⟨rfl, _⟩ | ⟨j, rfl, h1, _⟩
          · simp [blk]
          · rcases HF.out.1.cases with ⟨rfl, _⟩ | ⟨j2, rfl, _, h2, _⟩
            · simp at hg
            · simp at hg; simp [blk]; omega, Kp.nx HKW.out (Kp.nx HF.out.2 hb10)⟩)
      clear HT1 ho10 hb10
      go_wp2_with fail
      go_ret3
      exact hf.out
    | succ i =>
      rw [show ((i + 1 : Nat) : Int) - 1 = (i : Int) by omega]
      have hio : i < orig.length := by rw [HLO.out]; omega
      obtain ⟨x, hx⟩ : ∃ x, x = orig[i] := ⟨_, rfl⟩
      have hxw : x < 18446744073709551616 := by rw [hx]; exact horw _ (List.getElem_mem _)
      have hiN : i + (n + 2) + 1 ≤ orig.length := by rw [HLO.out]; omega
      obtain ⟨ws, post, lw, lp, zp, vw, plt, ol⟩ := E.opened HDB.out hiN x hx hxw
      have lti : (orig.take i).length = i := by simp; omega
      have chi := ol.cell (i + (n + 2)) (by simp only [List.length_append, lti]; omega)
      have clo := ol.cell (i + (n + 1)) (by simp only [List.length_append, lti]; omega)
      have ghi := mid_get (orig.take i) ws post (n + 2) (by omega)
      have glo := mid_get (orig.take i) ws post (n + 1) (by omega)
      rw [lti] at ghi glo
      rw [ghi] at chi
      rw [glo] at clo
      obtain ⟨hi', hhi⟩ : ∃ t, t = ws[n + 2]'(by omega) := ⟨_, rfl⟩
      obtain ⟨lo', hlo⟩ : ∃ t, t = ws[n + 1]'(by omega) := ⟨_, rfl⟩
      rw [← hhi] at chi
      rw [← hlo] at clo
      have wsw : Ws ws := fun y hy => ol.dig y (by simp [hy])
      have whi : hi' < 18446744073709551616 := by rw [hhi]; exact wsw _ (List.getElem_mem _)
      have wlo : lo' < 18446744073709551616 := by rw [hlo]; exact wsw _ (List.getElem_mem _)
      obtain ⟨P, hP⟩ : ∃ P, P = V ws := ⟨_, rfl⟩
      obtain ⟨q, hq⟩ : ∃ q, q = gs hi' lo' td := ⟨_, rfl⟩
      have wq : q < 18446744073709551616 := by rw [hq]; exact gs_lt _ _ _ HT0.out wlo
      have QH := Lib.hid (show P / D ≤ q by
        rw [hP, hq, ← HDV.out]
        exact qhat ws ds (n + 1) wsw HW.out lw HDL.out td hi' lo' HTD.out hhi hlo HT0.out (by rw [HDV.out]; exact plt))
      have cd := HCD.out
      rw [← E.bel.cell (p := ⟨g3, n + 1, none⟩) hg3'] at cd
      have HG := Lib.hid (fun w => guess hi' lo' td q wtd wlo w hq)
      have HVW := Lib.hid vw
      have HPV := Lib.hid hP
      have HLW := Lib.hid lw
      have HLP := Lib.hid lp
      have HZP := Lib.hid zp
      have HX1 := Lib.hid hx
      have HPL := Lib.hid plt
      have HLT := Lib.hid lti
      have hiq : i < Q := by omega
      have cq := E.ownq.cell i (by rw [E.lq]; exact hiq)
      have cfq := E.ownq.free i
      have hc5 : m + 1 ≤ c5 := by have h1 := HLO.out; have := ol.cap; simp only [List.length_append, lti] at this; omega
      clear ghi glo hhi hlo hq hP vw lw lp zp hx plt lti hiN
      obtain ⟨wo, rfl⟩ : ∃ wo : World, wo = wr := ⟨_, rfl⟩
      go_wp2_with fail
      have hw1 : IntKind.i64.wrap ((n : Int) + 2 - 1) = (n : Int) + 1 := by rw [IntWalk.i64_in _ (by omega)]; omega
      have hw2 : ((n : Int) + 1).toNat = n + 1 := by omega
      have hw3 : (0 : Int) ≤ (n : Int) + 1 := by omega
      have ne1 : ¬ g5 = gq := by omega
      have ne2 : ¬ g3 = gq := by omega
      have ne3 : ¬ gq = g5 := by omega
      have ne4 : ¬ gq = g3 := by omega
      have hw4 : ((n : Int) + 2).toNat = n + 2 := by omega
      have hw5 : (0 : Int) ≤ (n : Int) + 2 := by omega
      have hw6 : (n : Int) + 2 < ((n + 3 : Nat) : Int) := by omega
      have hw7 : (n : Int) + 1 < ((n + 3 : Nat) : Int) := by omega
      have hw8 : (n : Int) + 1 < ((n + 2 : Nat) : Int) := by omega
      rw [show i + (n + 2) + 1 - i = n + 3 by omega]
      go_region_held3 (fun w' => w'.cell? ⟨g5, i + (n + 2), none⟩ = some (.int .u64 (hi' : Nat)) ∧ w'.cell? ⟨g5, i + (n + 1), none⟩ = some (.int .u64 (lo' : Nat)) ∧ w'.cell? ⟨g3, n + 1, none⟩ = some (.int .u64 (td : Nat))) (go_keep)
        (first | (go_at_call 36; refine (HG.out _).mono ?_; rintro e w' ⟨rfl, kk, rfl⟩))
      have hB0 : w3.heap.size ≤ w3.heap.size := Nat.le_refl _
      have O5 := ((ol.dr (1 + kk)).kept ((E.ownq.dr (1 + kk)).store i q wq).2 (fun g hg => by simp at hg; subst hg; simpa using ne1))
      have O6 := ((E.ownq.dr (1 + kk)).store i q wq).1
      have BL := (below_drewN E.bel (1 + kk)).setCell (p := ⟨gq, i, none⟩) (show w3.heap.size ≤ gq by omega) (.int .u64 (q : Int))
      have EE := Lib.hid E
      have CQ0 : ∀ qq, (us.set i qq)[i]?.getD 0 = qq := by intro qq; simp [show i < us.length by rw [E.lq]; exact hiq]
      have SS : ∀ (x y : Nat), (us.set i x).set i y = us.set i y := by intro x y; simp
      have LQ := Lib.hid (show ∀ x, i < (us.set i x).length by intro x; rw [List.length_set, E.lq]; exact hiq)
      generalize ((wo.drewN (1 + kk)).setCell ⟨gq, i, none⟩ (.int .u64 (q : Int))) = w7 at O5 O6 BL ⊢
      have HTK := Lib.hid (show Calls Try.prog 37 #[.slice (some ⟨g5, i, none⟩) (n + 3) (c5 - i), .slice (some ⟨g3, 0, none⟩) (n + 2) c3, .int .u64 (q : Int)] w7 _ from
        take w3.heap.size g5 c5 w3.heap.size (orig.take i) ws post (some ⟨g3, 0, none⟩) c3 i (n + 2) (c5 - i) ds q w7 O5 (HSL.out.below BL hB0) g5ge BL.size HLT.out HDL.out HLW.out (by omega) (by omega) wq)
      have cq7 := O6.cell i (LQ.out _)
      rw [CQ0] at cq7
      have cf7 := O6.free i
      have BB := Lib.hid BL
      have OO := Lib.hid O6
      clear O5 O6 BL E ol chi clo cd cq cfq hw1 hw2 hw3 hw4 hw5 hw6 hw7 hw8
      have HCQ := Lib.hid CQ0
      have HSS2 := Lib.hid SS
      clear CQ0 SS HG
      go_wp2_with fail
      refine HTK.out.mono ?_; rintro e w8 ⟨bo, ws1, rfl, hbo, lw1, hv1, ol1, hg1⟩
      clear HTK cq7 cf7
      have oq1 := OO.out.kept hg1 (fun g hg => by simp at hg; subst hg; simpa using ne3)
      have bl1 := BB.out.grown hg1 BB.out.size (fun k hk => by cases hk; exact g5ge)
      have HV1 := Lib.hid hv1
      have LW1 := Lib.hid lw1
      have hw1lt : V ws1 < 18446744073709551616 ^ (n + 3) := by
        have := V_lt (show Ws ws1 from fun y hy => ol1.dig y (by simp [hy])); rw [LW1.out] at this; exact this
      have HWL := Lib.hid hw1lt
      clear hv1 lw1 BB OO hw1lt
      rcases (show bo = 0 ∨ bo = 1 by omega) with hb0 | hb0
      · subst hb0
        rw [show ((0 : Nat) : Int) = (0 : Int) from rfl]
        have t0 := took0 (V ws1) D q P HD0.out (by have := HV1.out; rw [HDV.out, ← HPV.out] at this; omega) QH.out
        have EN := Lib.hid (EE.out.closed HD0.out (by rw [HLO.out]; omega) hiq x HX1.out P q (by rw [HPV.out, HVW.out]) LW1.out HLP.out HZP.out t0.1 t0.2 ol1 oq1 bl1)
        clear t0 ol1 oq1 bl1 hg1
        go_wp2_with fail
        go_roundw
        case rel => exact ⟨i, _, _, by go_num, by omega, EN.out⟩
        case measure => simp [intOf]
      · subst hb0
        rw [show ((1 : Nat) : Int) = (1 : Int) from rfl]
        have q1 : 0 < q := by
          rcases Nat.eq_zero_or_pos q with h | h
          · have := HV1.out; have h2 := HWL.out; rw [h, Nat.mul_zero] at this
            rw [show n + 2 + 1 = n + 3 by omega] at this; omega
          · exact h
        have cq8 := oq1.cell i (LQ.out _)
        rw [HCQ.out] at cq8
        have cf8 := oq1.free i
        have o9 := oq1.store i (q - 1) (by omega)
        rw [HSS2.out] at o9
        have ol9 := ol1.kept o9.2 (fun g hg => by simp at hg; subst hg; simpa using ne1)
        have bl9 := bl1.setCell (p := ⟨gq, i, none⟩) (show w3.heap.size ≤ gq by omega) (.int .u64 ((q - 1 : Nat) : Int))
        rw [show ((q - 1 : Nat) : Int) = (q : Int) - 1 by omega] at o9 ol9 bl9
        have HST := Lib.hid (show ∃ (qc : Nat) (ws2 : List Nat), qc < 18446744073709551616 ∧ ws2.length = n + 2 + 1 ∧ V ws2 + D * (qc + 1) = P + 18446744073709551616 ^ (n + 3) ∧ Own 36 w3.heap.size (w8.setCell ⟨gq, i, none⟩ (.int .u64 ((q : Int) - 1))) (some ⟨g5, 0, none⟩) c5 (orig.take i ++ ws2 ++ post) ∧ Own 36 w3.heap.size (w8.setCell ⟨gq, i, none⟩ (.int .u64 ((q : Int) - 1))) (some ⟨gq, 0, none⟩) Q (us.set i qc) ∧ Below w3.heap.size w3 (w8.setCell ⟨gq, i, none⟩ (.int .u64 ((q : Int) - 1))) from
          ⟨q - 1, ws1, by omega, LW1.out, by have := HV1.out; rw [HDV.out, ← HPV.out, show n + 2 + 1 = n + 3 by omega, Nat.one_mul] at this; rw [show q - 1 + 1 = q by omega]; exact this, ol9, o9.1, bl9⟩)
        clear o9 ol9 bl9 ol1 bl1 hg1 oq1
        go_wp2_with fail
        go_loopw [130] (fun _ wr => ∃ (qc : Nat) (ws2 : List Nat), qc < 18446744073709551616 ∧ Hid (ws2.length = n + 2 + 1) ∧ Hid (V ws2 + D * (qc + 1) = P + 18446744073709551616 ^ (n + 3)) ∧ Own 36 w3.heap.size wr (some ⟨g5, 0, none⟩) c5 (orig.take i ++ ws2 ++ post) ∧ Own 36 w3.heap.size wr (some ⟨gq, 0, none⟩) Q (us.set i qc) ∧ Below w3.heap.size w3 wr) (fun _ wr => match wr.cell? ⟨gq, i, none⟩ with | some (.int _ z) => z.toNat | _ => 0)
        case atStart =>
          obtain ⟨qc, ws2, h1, h2, h3, h4, h5, h6⟩ := HST.out
          exact ⟨qc, ws2, h1, h2, h3, h4, h5, h6⟩
        case round =>
          obtain ⟨qc, ws2, hqc, L2, V2, oa, ob, bc⟩ := hrel
          have HBK := Lib.hid (show Calls Try.prog 38 #[.slice (some ⟨g5, i, none⟩) (n + 3) (c5 - i), .slice (some ⟨g3, 0, none⟩) (n + 2) c3] wr _ from
            back w3.heap.size g5 c5 w3.heap.size (orig.take i) ws2 post (some ⟨g3, 0, none⟩) c3 i (n + 2) (c5 - i) ds wr oa (HSL.out.below bc hB0) g5ge bc.size HLT.out HDL.out L2.out (by omega) (by omega))
          have hw2lt : V ws2 < 18446744073709551616 ^ (n + 3) := by
            have := V_lt (show Ws ws2 from fun y hy => oa.dig y (by simp [hy])); rw [L2.out] at this; exact this
          have HW2 := Lib.hid hw2lt
          have OB := Lib.hid ob
          have BC := Lib.hid bc
          obtain ⟨wo, rfl⟩ : ∃ wo : World, wo = wr := ⟨_, rfl⟩
          clear hw2lt oa ob bc
          go_wp2_with fail
          refine HBK.out.mono ?_; rintro e w9 ⟨cy, ws3, rfl, hcy, lw3, hv3, ol3, hg3w⟩
          have ob3 := OB.out.kept hg3w (fun g hg => by simp at hg; subst hg; simpa using ne3)
          have bc3 := BC.out.grown hg3w BC.out.size (fun k hk => by cases hk; exact g5ge)
          have cq0 := OB.out.cell i (LQ.out _)
          rw [HCQ.out] at cq0
          have HV3 := Lib.hid hv3
          have LW3 := Lib.hid lw3
          clear HBK hv3 lw3 OB BC
          rcases (show cy = 0 ∨ cy = 1 by omega) with hc0 | hc0
          · subst hc0
            rw [show ((0 : Nat) : Int) = (0 : Int) from rfl]
            have hs : V ws3 + D * qc = P + 18446744073709551616 ^ (n + 3) := by
              have h1 := HV3.out; have h2 := V2.out; rw [HDV.out] at h1; rw [Nat.mul_add, Nat.mul_one] at h2; omega
            have hw3lt : V ws3 < 18446744073709551616 ^ (n + 3) := by
              have := V_lt (show Ws ws3 from fun y hy => ol3.dig y (by simp [hy])); rw [LW3.out] at this; exact this
            have q1 : 0 < qc := by
              rcases Nat.eq_zero_or_pos qc with h | h
              · rw [h, Nat.mul_zero] at hs; omega
              · exact h
            have cq9 := ob3.cell i (LQ.out _)
            rw [HCQ.out] at cq9
            have cf9 := ob3.free i
            have o9 := ob3.store i (qc - 1) (by omega)
            rw [HSS2.out] at o9
            have ol9 := ol3.kept o9.2 (fun g hg => by simp at hg; subst hg; simpa using ne1)
            have bl9 := bc3.setCell (p := ⟨gq, i, none⟩) (show w3.heap.size ≤ gq by omega) (.int .u64 ((qc - 1 : Nat) : Int))
            have cqn := o9.1.cell i (LQ.out _)
            rw [HCQ.out] at cqn
            rw [show ((qc - 1 : Nat) : Int) = (qc : Int) - 1 by omega] at o9 ol9 bl9 cqn
            have HN2 := Lib.hid (show V ws3 + D * (qc - 1 + 1) = P + 18446744073709551616 ^ (n + 3) by rw [show qc - 1 + 1 = qc by omega]; exact hs)
            have HO2 := Lib.hid (And.intro ol9 (And.intro o9.1 bl9))
            have HC2 := Lib.hid cqn
            have HC0 := Lib.hid cq0
            clear hs hw3lt o9 ol9 bl9 ol3 ob3 bc3 hg3w cqn cq0
            go_wp2_with fail
            go_roundw
            case rel => exact ⟨qc - 1, ws3, by omega, LW3, HN2, HO2.out.1, HO2.out.2.1, HO2.out.2.2⟩
            case measure => rw [HC2.out, HC0.out]; simp; omega
          · subst hc0
            rw [show ((1 : Nat) : Int) = (1 : Int) from rfl]
            have t0 := back1 (V ws3) D qc P HD0.out (by
                have h1 := HV3.out; have h2 := V2.out; rw [HDV.out] at h1; rw [Nat.mul_add, Nat.mul_one] at h2
                rw [show n + 2 + 1 = n + 3 by omega] at h1; omega) (by have h1 := HW2.out; have h2 := V2.out; omega)
            have EN := Lib.hid (EE.out.closed HD0.out (by rw [HLO.out]; omega) hiq x HX1.out P qc (by rw [HPV.out, HVW.out]) LW3.out HLP.out HZP.out t0.1 t0.2 ol3 ob3 bc3)
            clear t0 ol3 ob3 bc3 hg3w cq0
            go_wp2_with fail
            go_roundw
            case rel => exact ⟨i, _, _, by go_num, by omega, EN.out⟩
            case measure => simp [intOf]
end Go.Proofs.QT
