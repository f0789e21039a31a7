/- The document's Mul of layer 2: a product digit by digit. -/
import Derived.Test.YtepndjcncmkkkaaRefG
namespace Go.Proofs.RN
open Go.RowKit
open Go.Proofs
open Go.Proofs.NP
open Go.Proofs.SL
set_option linter.unusedVariables false
set_option linter.unusedSimpArgs false

/-- between the rows of a product -/
structure DAt (w wr : World) (g N : Nat) (ds es os : List Nat) (i : Nat) : Prop where
  len : os.length = N
  own : Own 36 w.heap.size wr (some ⟨g, 0, none⟩) N os
  rows : NP.Rows 65536 os (ds ++ [0]) es i
  bel : Below w.heap.size w wr

/-- inside a row -/
structure DIn (w wr : World) (g N : Nat) (es os os' : List Nat) (x i k over : Nat) : Prop where
  len : os'.length = N
  own : Own 36 w.heap.size wr (some ⟨g, 0, none⟩) N os'
  row : NP.Row 65536 os os' x es i k over
  bel : Below w.heap.size w wr

theorem DAt.dr {w wr : World} {g N : Nat} {ds es os : List Nat} {i : Nat} (E : DAt w wr g N ds es os i) (n : Nat) : DAt w (wr.drewN n) g N ds es os i :=
  ⟨E.len, E.own.dr n, E.rows, below_drewN E.bel n⟩
theorem DIn.dr {w wr : World} {g N : Nat} {es os os' : List Nat} {x i k over : Nat} (R : DIn w wr g N es os os' x i k over) (n : Nat) : DIn w (wr.drewN n) g N es os os' x i k over :=
  ⟨R.len, R.own.dr n, R.row, below_drewN R.bel n⟩

theorem DIn.next {w wr : World} {g N : Nat} {es os os' : List Nat} {x i k over : Nat} (R : DIn w wr g N es os os' x i k over) (hx : x < 65536) (hys : Dig 65536 es) (hk : k < es.length) (hl : i + k < os.length) (D : Int) (v : Nat)
    (hv : v = (x * es[k] + over + os'[i + k]?.getD 0) / 65536) (hD : D = ((x * es[k] + over + os'[i + k]?.getD 0) % 65536 : Nat)) :
    ∃ os'', DIn w (wr.setCell ⟨g, i + k, none⟩ (.int .u64 D)) g N es os os'' x i (k + 1) v := by
  subst hv; subst hD
  have o2 := R.own.store (i + k) ((x * es[k] + over + os'[i + k]?.getD 0) % 65536) (Nat.lt_trans (Nat.mod_lt _ (by decide)) (by decide))
  have hg := R.own.ge.1
  refine ⟨_, ⟨by rw [List.length_set]; exact R.len, o2.1, R.row.next (by decide) hx hys hk hl, R.bel.setCell (p := ⟨g, i + k, none⟩) hg _⟩⟩

theorem snoc_get (ds : List Nat) (i : Nat) (h : i < ds.length) (h' : i < (ds ++ [0]).length) : (ds ++ [0])[i] = ds[i] := by simp [h]
theorem Dig.snoc {ds : List Nat} (h : Dig 65536 ds) : Dig 65536 (ds ++ [0]) := h.append (fun x hx => by simp at hx; omega)

/-- what stands behind a row is 0 -/
theorem DIn.zero {w wr : World} {g N : Nat} {ds es os os' : List Nat} {x i over : Nat} (hi : i < ds.length) (A : NP.Rows 65536 os (ds ++ [0]) es i) (hd : Dig 65536 ds) (he : Dig 65536 es) (R : DIn w wr g N es os os' x i es.length over) : os'[i + es.length]?.getD 0 = 0 := by
  rw [R.row.tail _ (Nat.le_refl _)]
  exact A.zero (by decide) (Dig.snoc hd) he (by simp; omega)

theorem DIn.done {w wr : World} {g N : Nat} {ds es os os' : List Nat} {i over : Nat} (hi : i < ds.length) (A : NP.Rows 65536 os (ds ++ [0]) es i) (hd : Dig 65536 ds) (he : Dig 65536 es) (R : DIn w wr g N es os os' ds[i] i es.length over) (D : Int) (hD : D = (over : Nat)) :
    ∃ os'', DAt w (wr.setCell ⟨g, i + es.length, none⟩ (.int .u64 D)) g N ds es os'' (i + 1) := by
  subst hD
  have o2 := R.own.store (i + es.length) over (Nat.lt_trans R.row.ov (by decide))
  have hg := R.own.ge.1
  have hr := R.row
  rw [← snoc_get ds i hi (by simp; omega)] at hr
  exact ⟨_, ⟨by rw [List.length_set]; exact R.len, o2.1, A.next (by decide) (Dig.snoc hd) he (by simp; omega) hr, R.bel.setCell (p := ⟨g, i + es.length, none⟩) hg _⟩⟩

theorem DIn.done0 {w wr : World} {g N : Nat} {ds es os os' : List Nat} {i : Nat} (hi : i < ds.length) (A : NP.Rows 65536 os (ds ++ [0]) es i) (hd : Dig 65536 ds) (he : Dig 65536 es) (R : DIn w wr g N es os os' ds[i] i es.length 0) :
    DAt w wr g N ds es os' (i + 1) := by
  have h0 := R.zero hi A hd he
  have hr := R.row
  rw [← snoc_get ds i hi (by simp; omega)] at hr
  have hn := A.next (by decide) (Dig.snoc hd) he (by simp; omega) hr
  have e : os'.set (i + es.length) 0 = os' := by
    apply List.ext_getElem?
    intro j
    rw [List.getElem?_set]
    split
    · rename_i h; subst h
      split
      · rename_i h2; simp [h2] at h0; simp [h2, h0]
      · rename_i h2; simp [h2]
    · rfl
  rw [e] at hn
  exact ⟨R.len, R.own, hn, R.bel⟩

theorem DAt.fin {w wr : World} {g N : Nat} {ds es os : List Nat} (E : DAt w wr g N ds es os ds.length) : U os = U ds * U es := by
  have := E.rows.v
  rw [List.take_left'  rfl] at this
  exact this

variable {w : World} {a b : Option Addr} {ca cb l k : Nat} {xs ys zs : List Nat}

set_option maxHeartbeats 4000000 in
theorem mul (hx : Rd w a ca xs) (hy : Rd w b cb ys) (lx : xs.length = l) (ly : ys.length = k) (h : l ≤ 50000) (h' : k ≤ 50000) (hz : zs = L (V xs * V ys)) :
    Calls Try.prog 42 #[.slice a l ca, .slice b k cb] w (Gives 36 w zs) := by
  obtain ⟨i0, hi, hz0, hz1, hz2⟩ := info_parts NT.Try.info36
  obtain ⟨ds, hds⟩ : ∃ ds, ds = D (V xs) := ⟨_, rfl⟩
  obtain ⟨es, hes⟩ : ∃ es, es = D (V ys) := ⟨_, rfl⟩
  have hdl : ds.length ≤ 200000 := by have := D_len hx.ws; rw [hds]; omega
  have hel : es.length ≤ 200000 := by have := D_len hy.ws; rw [hes]; omega
  have HD1 := Lib.hid (show Dig 65536 ds by rw [hds]; exact Dd _)
  have HE1 := Lib.hid (show Dig 65536 es by rw [hes]; exact Dd _)
  have HZ := Lib.hid (show zs = L (U ds * U es) by rw [hds, hes, UD, UD]; exact hz)
  have HC := Lib.hid (digits' hx lx (by omega) hds)
  have HD := Lib.hid (fun (w1 : World) (hy : Rd w1 b cb ys) => digits' hy ly (by omega) hes)
  have HY := Lib.hid hy
  clear hz hds hes hx hy lx ly
  go_enter Try.func42, Try.ntmps42
  go_wp2_with fail
  refine HC.out.mono ?_
  rintro e w1 ⟨p, c, rfl, ho, hb⟩
  have hr := ho.rd
  have HY2 := HY.out.nx hb
  clear HC HY ho
  go_wp2_with fail
  refine (HD.out w1 HY2).mono ?_
  rintro e w2 ⟨q, d, rfl, ho2, hb2⟩
  have hr2 := ho2.rd
  have hr1 := hr.nx hb2
  have hkp : Hid (Kp w w2) := Kp.nx hb hb2
  clear HD HY2 hr ho2 hb hb2
  obtain ⟨wm, hmk, hown0, hgr0⟩ := run_make_full (P := Try.prog) w2 w2.heap.size 22 36 i0 (.int .u64 0) 1 Try.underlying22 hi hz0 hz1 .i64 .i64 (ds.length + es.length + 1) (by rw [hz2]; omega) (by unfold maxLen; omega) (Nat.le_refl _)
  rw [Nat.mul_one, show (Value.int .u64 0).cells = #[Value.int .u64 0] from rfl, toList_madeCells_one] at hown0
  rw [show (((ds.length + es.length + 1 : Nat)) : Int) = (ds.length : Int) + (es.length : Int) + 1 by omega] at hmk
  have E0 : DAt w2 wm w2.heap.size (ds.length + es.length + 1) ds es (List.replicate (ds.length + es.length + 1) 0) 0 :=
    ⟨by simp, ⟨Dig.zeros (by decide) _, by simpa [enc] using hown0⟩, ⟨by simp; omega, Dig.zeros (by decide) _, by simp [val_zeros, val]⟩, (Below.refl _ _).grown hgr0 (Nat.le_refl _) (fun k hk => by cases hk)⟩
  clear hown0 hgr0
  have hEq := Lib.hid hmk
  clear hmk
  go_wp2_with (rw [hEq.out])
  go_loopw [8] (fun s wr => ∃ i : Nat, s = .int .i64 i ∧ i ≤ ds.length ∧ ∃ os, DAt w2 wr w2.heap.size (ds.length + es.length + 1) ds es os i) (fun s _ => ds.length - (intOf s).toNat)
  case atStart => exact ⟨0, rfl, by omega, _, E0⟩
  case round =>
    obtain ⟨i, rfl, hi', os, E⟩ := hrel
    by_cases hlt : i < ds.length
    · rcases hr1.at' with h0 | ⟨bx, ox, rfl, hbx, cx⟩
      · rw [h0] at hlt; simp at hlt
      have CX := Lib.hid (cx i hlt)
      have bx' := HD1.out.get i hlt
      have hol := E.len
      have RW := Lib.hid E.rows
      obtain ⟨wo, rfl⟩ : ∃ wo : World, wo = wr := ⟨_, rfl⟩
      obtain ⟨x, hx⟩ : ∃ x, x = ds[i] := ⟨_, rfl⟩
      rw [← hx] at CX bx'
      have HXE := Lib.hid hx
      clear cx hx
      go_wp2_with fail
      go_loopw [9, 10] (fun s9 s10 wr => ∃ k over : Nat, s9 = .int .u64 over ∧ s10 = .int .i64 k ∧ over < 65536 ∧ k ≤ es.length + 1 ∧ Hid ((k ≤ es.length ∧ ∃ os', DIn w2 wr w2.heap.size (ds.length + es.length + 1) es os os' x i k over) ∨ (k = es.length + 1 ∧ over = 0 ∧ ∃ os', DAt w2 wr w2.heap.size (ds.length + es.length + 1) ds es os' (i + 1)))) (fun _ s _ => es.length + 1 - (intOf s).toNat)
      case atStart => exact ⟨0, 0, rfl, rfl, by omega, by omega, .inl ⟨by omega, os, ⟨hol, E.own, Row.start (by decide) E.rows.dig, E.bel⟩⟩⟩
      case round =>
        obtain ⟨k, over, rfl, rfl, hov, hk', HR⟩ := hrel
        rcases HR.out with ⟨hk2, os', R⟩ | ⟨rfl, rfl, os', A⟩
        · rcases Nat.lt_or_ge k es.length with hlt2 | hlt2
          · rcases hr2.at' with h0 | ⟨by1, oy, rfl, hby, cy⟩
            · rw [h0] at hlt2; simp at hlt2
            have cy' : wr.cell? ⟨by1, oy + k, none⟩ = some (.int .u64 (es[k] : Nat)) := by rw [R.bel.cell (p := ⟨by1, oy + k, none⟩) hby]; exact cy k hlt2
            have cx' : wr.cell? ⟨bx, ox + i, none⟩ = some (.int .u64 (x : Nat)) := by rw [R.bel.cell (p := ⟨bx, ox + i, none⟩) hbx]; exact CX.out
            have by' := HE1.out.get k hlt2
            have co := R.own.cell (i + k) (by rw [R.len]; omega)
            have cf := R.own.free (i + k)
            have bo := R.row.dig.getD (by decide) (i + k)
            have NX := Lib.hid (fun n => (R.dr n).next bx' HE1.out hlt2 (by rw [hol]; omega))
            have rs := row_step 65536 (by decide) x es[k] over (os'[i + k]?.getD 0) bx' by' hov bo
            have m1 := Nat.mul_le_mul (show x ≤ 65535 by omega) (show es[k] ≤ 65535 by omega)
            generalize os'[i + k]?.getD 0 = o at *
            generalize es[k] = y at *
            have p0 : 0 ≤ (x : Int) * (y : Int) := Int.mul_nonneg (by omega) (by omega)
            have pe : (x : Int) * (y : Int) = ((x * y : Nat) : Int) := by simp
            have p1 : (x : Int) * (y : Int) ≤ 4294836225 := by rw [pe]; omega
            have RS := Lib.hid rs
            have PE := Lib.hid pe
            clear rs pe m1 cy R HR
            go_wp2_with fail
            go_quiet (fail)
            go_wp2_with fail
            go_roundw
            case rel =>
              obtain ⟨os'', R'⟩ := NX.out _ (((o : Int) + (over : Int) + (x : Int) * (y : Int)) % 65536) ((x * y + over + o) / 65536) rfl (by have := PE.out; omega)
              exact ⟨k + 1, (x * y + over + o) / 65536, W.val_int (by have := PE.out; omega), by go_num, RS.out, by omega, .inl ⟨by omega, os'', R'⟩⟩
            case measure => simp [intOf]; omega
          · obtain rfl : k = es.length := by omega
            have z0 := (HXE.out ▸ R).zero hlt RW.out HD1.out HE1.out
            by_cases h0 : over = 0
            · subst h0
              have A := Lib.hid ((HXE.out ▸ R).done0 hlt RW.out HD1.out HE1.out)
              clear R HR z0
              go_wp2_with fail
              go_roundw
              case rel => exact ⟨i + 1, by go_num, by omega, os', A.out⟩
              case measure => simp [intOf]; omega
            · have hov1 : 0 < over := by omega
              have co := R.own.cell (i + es.length) (by rw [R.len]; omega)
              rw [z0] at co
              have cf := R.own.free (i + es.length)
              have A := Lib.hid (fun D hD => (HXE.out ▸ R).done hlt RW.out HD1.out HE1.out D hD)
              clear R HR z0 h0
              go_wp2_with fail
              go_roundw
              case rel =>
                obtain ⟨os'', A'⟩ := A.out ((over : Int) % 65536) (by omega)
                exact ⟨es.length + 1, 0, by go_num, by go_num, by omega, by omega, .inr ⟨rfl, rfl, os'', A'⟩⟩
              case measure => simp [intOf]
        · have AA := Lib.hid A
          clear HR A
          go_wp2_with fail
          go_roundw
          case rel => exact ⟨i + 1, by go_num, by omega, os', AA.out⟩
          case measure => simp [intOf]; omega
    · obtain rfl : i = ds.length := by omega
      have hdo := E.rows.dig
      have hol2 : os.length ≤ 1000000 := by rw [E.len]; omega
      have HJ := Lib.hid (join' (l := ds.length + es.length + 1) (zs := zs) E.own.rd hdo E.len (by omega) (by rw [HZ.out, E.fin]))
      have hbb := Lib.hid (Kp.nx hkp.out E.bel)
      clear E hdo hol2
      go_wp2_with fail
      refine HJ.out.mono ?_
      rintro e w3 ⟨q3, d3, rfl, ho3, hb3⟩
      have hf := Lib.hid (Gives.step hbb.out ho3 hb3)
      clear HJ ho3 hb3
      go_wp2
      go_ret
      exact hf.out
end Go.Proofs.RN
