/- The document's Add of layer 2. -/
import Derived.Test.YtepndjcncmkkkaaRefE
namespace Go.Proofs.RN
open Go.RowKit
open Go.Proofs
open Go.Proofs.NP
open Go.Proofs.SL
set_option linter.unusedVariables false
set_option linter.unusedSimpArgs false
variable {w : World} {a b : Option Addr} {ca cb l k : Nat} {xs ys zs : List Nat}

set_option maxHeartbeats 4000000 in
theorem add (hx : Rd w a ca xs) (hy : Rd w b cb ys) (lx : xs.length = l) (ly : ys.length = k) (h : l ≤ 100000) (h' : k ≤ 100000) (hz : zs = L (V xs + V ys)) :
    Calls Try.prog 28 #[.slice a l ca, .slice b k cb] w (Gives 36 w zs) := by
  obtain ⟨i0, hi, hz0, hz1, hz2⟩ := info_parts NT.Try.info36
  obtain ⟨X, hX⟩ : ∃ X, X = V xs := ⟨_, rfl⟩
  obtain ⟨Y, hY⟩ : ∃ Y, Y = V ys := ⟨_, rfl⟩
  obtain ⟨ds, hds⟩ : ∃ ds, ds = D X := ⟨_, rfl⟩
  obtain ⟨es, hes⟩ : ∃ es, es = D Y := ⟨_, rfl⟩
  have hdl : ds.length ≤ 400000 := by have := D_len hx.ws; rw [hds, hX]; omega
  have hel : es.length ≤ 400000 := by have := D_len hy.ws; rw [hes, hY]; omega
  rw [← hX, ← hY] at hz
  obtain ⟨M, m1, m2, m3⟩ : ∃ M, ds.length ≤ M ∧ es.length ≤ M ∧ M ≤ 400000 := ⟨max ds.length es.length, by omega, by omega, by omega⟩
  have DX := Lib.hid (show ∀ i : Nat, ds[i]?.getD 0 = dg 65536 X i from fun i => by rw [hds]; exact Ddg _ i)
  have DY := Lib.hid (show ∀ i : Nat, es[i]?.getD 0 = dg 65536 Y i from fun i => by rw [hes]; exact Ddg _ i)
  have ST := Lib.hid (fun i => add_step 65536 X Y i (by decide))
  have C0 := Lib.hid (cin_zero 65536 X Y)
  have CE := Lib.hid (show ∀ i, M < i → cin 65536 X Y i = 0 from fun i hi => cin_end X Y i (by rw [← hds]; omega) (by rw [← hes]; omega))
  have CL := Lib.hid (fun i => cin_le 65536 X Y i (by decide))
  have AE := Lib.hid (show ∀ i, ds.length ≤ i → es.length ≤ i → cin 65536 X Y i = 0 → val 65536 (low 65536 (X + Y) i) = X + Y from fun i h1 h2 h3 => add_end X Y i (by rw [← hds]; exact h1) (by rw [← hes]; exact h2) h3)
  have HZ := Lib.hid hz
  have HC := Lib.hid (digits' hx lx h (hds.trans (by rw [hX])))
  have HD := Lib.hid (fun (w1 : World) (hy : Rd w1 b cb ys) => digits' hy ly h' (hes.trans (by rw [hY])))
  have HY := Lib.hid hy
  clear hz hds hes hx hy lx ly hX hY
  go_enter Try.func28, Try.ntmps28
  go_wp2_with fail
  refine HC.out.mono ?_
  rintro e w1 ⟨p, c, rfl, ho, hb⟩
  have hr := ho.rd
  have HY2 := HY.out.nx hb
  clear HC HY ho
  go_wp2_with fail
  refine (HD.out w1 HY2).mono ?_
  rintro e w2 ⟨q, d, rfl, ho2, hb2⟩
  have hr2 := ho2.rd
  have hr1 := hr.nx hb2
  have hkp : Hid (Kp w w2) := Kp.nx hb hb2
  have WX := Lib.hid (show ∀ i (h : i < ds.length), ds[i] < 65536 from fun i h => by have := DX.out i; simp [h] at this; rw [this]; exact dg_lt _ _ _ (by decide))
  have WY := Lib.hid (show ∀ i (h : i < es.length), es[i] < 65536 from fun i h => by have := DY.out i; simp [h] at this; rw [this]; exact dg_lt _ _ _ (by decide))
  clear HD HY2 hr ho2 hb hb2
  go_wp2_with fail
  go_loopw [7, 8, 9] (fun s7 s8 s9 wr => ∃ (i cy : Nat) (pa : Option Addr) (cc : Nat) (os : List Nat), s7 = .slice pa os.length cc ∧ s8 = .int .u64 cy ∧ s9 = .int .i64 i ∧ i ≤ M + 1 ∧ os.length ≤ i ∧ cy ≤ 1 ∧ Hid (cy = cin 65536 X Y i) ∧ Hid (os = low 65536 (X + Y) i) ∧ Own 36 w2.heap.size wr pa cc os ∧ Below w2.heap.size w2 wr) (fun _ _ s _ => M + 1 - (intOf s).toNat)
  case atStart => exact ⟨0, 0, none, 0, [], rfl, rfl, rfl, by omega, by simp, by omega, C0.out.symm, rfl, ⟨Dig.nil _, World.ownsRow_nil w2 _ _ _⟩, Below.refl _ _⟩
  case round =>
    obtain ⟨i, cy, pa, cc, os, rfl, rfl, rfl, hi', hol, hcy, HCY, HO, ho, hb⟩ := hrel
    by_cases hgo : ds.length ≤ i ∧ es.length ≤ i ∧ cy = 0
    · obtain ⟨g1, g2, rfl⟩ := hgo
      have HA := AE.out i g1 g2 HCY.out.symm
      have hdo : Dig 65536 os := by rw [HO.out]; exact low_dig _ _ _ (by decide)
      have hol2 : os.length ≤ 1000000 := by omega
      have HJ := Lib.hid (join' (zs := zs) ho.rd hdo rfl hol2 (by rw [HZ.out]; congr 1; show _ = val 65536 os; rw [HO.out]; exact HA.symm))
      have hbb := Lib.hid (Kp.nx hkp.out hb)
      clear HA hdo ho hb HCY HO
      go_wp2_with fail
      refine HJ.out.mono ?_
      rintro e w3 ⟨q3, d3, rfl, ho3, hb3⟩
      have hf := Lib.hid (Gives.step hbb.out ho3 hb3)
      clear HJ ho3 hb3
      go_wp2
      go_ret
      exact hf.out
    · have hiM : i ≤ M := by
        rcases Nat.lt_or_ge M i with h1 | h1
        · have := CE.out i h1; rw [← HCY.out] at this; omega
        · exact h1
      have hst := ST.out i
      rw [← HCY.out, ← DX.out, ← DY.out] at hst
      obtain ⟨wo, rfl⟩ : ∃ wo : World, wo = wr := ⟨_, rfl⟩
      rcases Nat.lt_or_ge i ds.length with g1 | g1 <;> rcases Nat.lt_or_ge i es.length with g2 | g2
      · rcases hr1.at' with h0 | ⟨b1, o1, rfl, hk1, hc1⟩
        · rw [h0] at g1; simp at g1
        have c1 : wo.cell? ⟨b1, o1 + i, none⟩ = some (.int .u64 (ds[i] : Nat)) := by rw [hb.cell (p := ⟨b1, o1 + i, none⟩) hk1]; exact hc1 i g1
        have wx := WX.out i g1
        have ex : ds[i]?.getD 0 = ds[i] := by simp [g1]
        rw [ex] at hst
        obtain ⟨x, hx⟩ : ∃ x, x = ds[i] := ⟨_, rfl⟩
        rw [← hx] at c1 wx hst
        clear ex hx hc1
        rcases hr2.at' with h0 | ⟨b2, o2, rfl, hk2, hc2⟩
        · rw [h0] at g2; simp at g2
        have c2 : wo.cell? ⟨b2, o2 + i, none⟩ = some (.int .u64 (es[i] : Nat)) := by rw [hb.cell (p := ⟨b2, o2 + i, none⟩) hk2]; exact hc2 i g2
        have wy := WY.out i g2
        have ey : es[i]?.getD 0 = es[i] := by simp [g2]
        rw [ey] at hst
        obtain ⟨y, hy⟩ : ∃ y, y = es[i] := ⟨_, rfl⟩
        rw [← hy] at c2 wy hst
        clear ey hy hc2
        have HST := Lib.hid hst; clear hst hgo
        have hown := (ho.al (.cells #[.int .u64 (((cy : Int) + (x : Int) + (y : Int)) % 65536)] 36)).row
        have hcell : Hid ((wo.alloc (.cells #[.int .u64 (((cy : Int) + (x : Int) + (y : Int)) % 65536)] 36)).cell? ⟨wo.heap.size, 0, none⟩ = some (.int .u64 (((cy : Int) + (x : Int) + (y : Int)) % 65536))) := (World.ownsRow_lit (e := 36) (base := 0) (size := 1) wo #[.int .u64 (((cy : Int) + (x : Int) + (y : Int)) % 65536)] 1 (Nat.zero_le _) (by decide) (by simp)).cellAt 0 (by decide)
        go_wp2_with (at_builtin; refine wpList_append_own _ rfl _ _ 22 rfl w2.heap.size 36 i0 (.int .u64 0) 1 8 Try.underlying22 hi hz0 hz1 hz2 rfl (by decide) _ os.length (os.map enc) rfl hown ⟨wo.heap.size, 0, none⟩ 1 1 [.int .u64 (((cy : Int) + (x : Int) + (y : Int)) % 65536)] rfl ?c1 ?c2 ?c3 ?c4 ?c5 ?c6 ?_)
        case c1 => rfl
        case c2 =>
          intro j u hu
          cases j with
          | zero => simp at hu; subst hu; exact hcell.out
          | succ j => simp at hu
        case c3 => intro u hu; simp at hu; subst hu; rfl
        case c4 => unfold maxLen; omega
        case c5 => omega
        case c6 => exact Nat.le_trans hb.size (by simp)
        intro v' w4 hown2 hgr2 hnil2
        obtain ⟨pa2, ca2, rfl, ho2⟩ := own_more (d := (cy + x + y) % 65536) (by omega) hown2 ho.dig (by omega)
        have hb2 : Below w2.heap.size w2 w4 := by
          refine (hb.alloc hb.size _).grown hgr2 (Nat.le_trans hb.size (by simp)) (fun g hg => ?_)
          rcases ho.cases with ⟨rfl, _⟩ | ⟨g', rfl, h1, _⟩
          · simp [Value.ownBlock] at hg
          · simp [Value.ownBlock] at hg; omega
        have e1 : (cy + x + y) % 65536 = dg 65536 (X + Y) i := by rw [← HST.out.1]; congr 1; omega
        have e2 : (cy + x + y) / 65536 = cin 65536 X Y (i + 1) := by rw [← HST.out.2]; congr 1; omega
        have HO2 : Hid (os ++ [(cy + x + y) % 65536] = low 65536 (X + Y) (i + 1)) := by rw [Hid, low, ← HO.out, e1]
        have hul3 : (os ++ [(cy + x + y) % 65536]).length ≤ i + 1 := by simp; omega
        obtain ⟨us2, hus2⟩ : ∃ z, z = os ++ [(cy + x + y) % 65536] := ⟨_, rfl⟩
        rw [← hus2] at HO2 hul3 ho2 ⊢
        have HCY2 := Lib.hid e2
        have hcl := CL.out (i + 1)
        rw [← e2] at hcl
        clear hus2 hown2 hgr2 hnil2 hown hcell hb ho HO HCY e1 e2
        go_wp2_with fail
        go_roundw
        case rel => exact ⟨i + 1, (cy + x + y) / 65536, pa2, ca2, us2, rfl, by simp, by simp, by omega, hul3, hcl, HCY2, HO2, ho2, hb2⟩
        case measure => simp [intOf]; omega
      · rcases hr1.at' with h0 | ⟨b1, o1, rfl, hk1, hc1⟩
        · rw [h0] at g1; simp at g1
        have c1 : wo.cell? ⟨b1, o1 + i, none⟩ = some (.int .u64 (ds[i] : Nat)) := by rw [hb.cell (p := ⟨b1, o1 + i, none⟩) hk1]; exact hc1 i g1
        have wx := WX.out i g1
        have ex : ds[i]?.getD 0 = ds[i] := by simp [g1]
        rw [ex] at hst
        obtain ⟨x, hx⟩ : ∃ x, x = ds[i] := ⟨_, rfl⟩
        rw [← hx] at c1 wx hst
        clear ex hx hc1
        rw [show es[i]?.getD 0 = 0 by simp [g2]] at hst
        have HST := Lib.hid hst; clear hst hgo
        have hown := (ho.al (.cells #[.int .u64 (((cy : Int) + (x : Int)) % 65536)] 36)).row
        have hcell : Hid ((wo.alloc (.cells #[.int .u64 (((cy : Int) + (x : Int)) % 65536)] 36)).cell? ⟨wo.heap.size, 0, none⟩ = some (.int .u64 (((cy : Int) + (x : Int)) % 65536))) := (World.ownsRow_lit (e := 36) (base := 0) (size := 1) wo #[.int .u64 (((cy : Int) + (x : Int)) % 65536)] 1 (Nat.zero_le _) (by decide) (by simp)).cellAt 0 (by decide)
        go_wp2_with (at_builtin; refine wpList_append_own _ rfl _ _ 22 rfl w2.heap.size 36 i0 (.int .u64 0) 1 8 Try.underlying22 hi hz0 hz1 hz2 rfl (by decide) _ os.length (os.map enc) rfl hown ⟨wo.heap.size, 0, none⟩ 1 1 [.int .u64 (((cy : Int) + (x : Int)) % 65536)] rfl ?d1 ?d2 ?d3 ?d4 ?d5 ?d6 ?_)
        case d1 => rfl
        case d2 =>
          intro j u hu
          cases j with
          | zero => simp at hu; subst hu; exact hcell.out
          | succ j => simp at hu
        case d3 => intro u hu; simp at hu; subst hu; rfl
        case d4 => unfold maxLen; omega
        case d5 => omega
        case d6 => exact Nat.le_trans hb.size (by simp)
        intro v' w4 hown2 hgr2 hnil2
        obtain ⟨pa2, ca2, rfl, ho2⟩ := own_more (d := (cy + x) % 65536) (by omega) hown2 ho.dig (by omega)
        have hb2 : Below w2.heap.size w2 w4 := by
          refine (hb.alloc hb.size _).grown hgr2 (Nat.le_trans hb.size (by simp)) (fun g hg => ?_)
          rcases ho.cases with ⟨rfl, _⟩ | ⟨g', rfl, h1, _⟩
          · simp [Value.ownBlock] at hg
          · simp [Value.ownBlock] at hg; omega
        have e1 : (cy + x) % 65536 = dg 65536 (X + Y) i := by rw [← HST.out.1]; congr 1; omega
        have e2 : (cy + x) / 65536 = cin 65536 X Y (i + 1) := by rw [← HST.out.2]; congr 1; omega
        have HO2 : Hid (os ++ [(cy + x) % 65536] = low 65536 (X + Y) (i + 1)) := by rw [Hid, low, ← HO.out, e1]
        have hul3 : (os ++ [(cy + x) % 65536]).length ≤ i + 1 := by simp; omega
        obtain ⟨us2, hus2⟩ : ∃ z, z = os ++ [(cy + x) % 65536] := ⟨_, rfl⟩
        rw [← hus2] at HO2 hul3 ho2 ⊢
        have HCY2 := Lib.hid e2
        have hcl := CL.out (i + 1)
        rw [← e2] at hcl
        clear hus2 hown2 hgr2 hnil2 hown hcell hb ho HO HCY e1 e2
        go_wp2_with fail
        go_roundw
        case rel => exact ⟨i + 1, (cy + x) / 65536, pa2, ca2, us2, rfl, by simp, by simp, by omega, hul3, hcl, HCY2, HO2, ho2, hb2⟩
        case measure => simp [intOf]; omega
      · rw [show ds[i]?.getD 0 = 0 by simp [g1]] at hst
        rcases hr2.at' with h0 | ⟨b2, o2, rfl, hk2, hc2⟩
        · rw [h0] at g2; simp at g2
        have c2 : wo.cell? ⟨b2, o2 + i, none⟩ = some (.int .u64 (es[i] : Nat)) := by rw [hb.cell (p := ⟨b2, o2 + i, none⟩) hk2]; exact hc2 i g2
        have wy := WY.out i g2
        have ey : es[i]?.getD 0 = es[i] := by simp [g2]
        rw [ey] at hst
        obtain ⟨y, hy⟩ : ∃ y, y = es[i] := ⟨_, rfl⟩
        rw [← hy] at c2 wy hst
        clear ey hy hc2
        have HST := Lib.hid hst; clear hst hgo
        have hown := (ho.al (.cells #[.int .u64 (((cy : Int) + (y : Int)) % 65536)] 36)).row
        have hcell : Hid ((wo.alloc (.cells #[.int .u64 (((cy : Int) + (y : Int)) % 65536)] 36)).cell? ⟨wo.heap.size, 0, none⟩ = some (.int .u64 (((cy : Int) + (y : Int)) % 65536))) := (World.ownsRow_lit (e := 36) (base := 0) (size := 1) wo #[.int .u64 (((cy : Int) + (y : Int)) % 65536)] 1 (Nat.zero_le _) (by decide) (by simp)).cellAt 0 (by decide)
        go_wp2_with (at_builtin; refine wpList_append_own _ rfl _ _ 22 rfl w2.heap.size 36 i0 (.int .u64 0) 1 8 Try.underlying22 hi hz0 hz1 hz2 rfl (by decide) _ os.length (os.map enc) rfl hown ⟨wo.heap.size, 0, none⟩ 1 1 [.int .u64 (((cy : Int) + (y : Int)) % 65536)] rfl ?m1 ?m2 ?m3 ?m4 ?m5 ?m6 ?_)
        case m1 => rfl
        case m2 =>
          intro j u hu
          cases j with
          | zero => simp at hu; subst hu; exact hcell.out
          | succ j => simp at hu
        case m3 => intro u hu; simp at hu; subst hu; rfl
        case m4 => unfold maxLen; omega
        case m5 => omega
        case m6 => exact Nat.le_trans hb.size (by simp)
        intro v' w4 hown2 hgr2 hnil2
        obtain ⟨pa2, ca2, rfl, ho2⟩ := own_more (d := (cy + y) % 65536) (by omega) hown2 ho.dig (by omega)
        have hb2 : Below w2.heap.size w2 w4 := by
          refine (hb.alloc hb.size _).grown hgr2 (Nat.le_trans hb.size (by simp)) (fun g hg => ?_)
          rcases ho.cases with ⟨rfl, _⟩ | ⟨g', rfl, h1, _⟩
          · simp [Value.ownBlock] at hg
          · simp [Value.ownBlock] at hg; omega
        have e1 : (cy + y) % 65536 = dg 65536 (X + Y) i := by rw [← HST.out.1]; congr 1; omega
        have e2 : (cy + y) / 65536 = cin 65536 X Y (i + 1) := by rw [← HST.out.2]; congr 1; omega
        have HO2 : Hid (os ++ [(cy + y) % 65536] = low 65536 (X + Y) (i + 1)) := by rw [Hid, low, ← HO.out, e1]
        have hul3 : (os ++ [(cy + y) % 65536]).length ≤ i + 1 := by simp; omega
        obtain ⟨us2, hus2⟩ : ∃ z, z = os ++ [(cy + y) % 65536] := ⟨_, rfl⟩
        rw [← hus2] at HO2 hul3 ho2 ⊢
        have HCY2 := Lib.hid e2
        have hcl := CL.out (i + 1)
        rw [← e2] at hcl
        clear hus2 hown2 hgr2 hnil2 hown hcell hb ho HO HCY e1 e2
        go_wp2_with fail
        go_roundw
        case rel => exact ⟨i + 1, (cy + y) / 65536, pa2, ca2, us2, rfl, by simp, by simp, by omega, hul3, hcl, HCY2, HO2, ho2, hb2⟩
        case measure => simp [intOf]; omega
      · rw [show ds[i]?.getD 0 = 0 by simp [g1]] at hst
        rw [show es[i]?.getD 0 = 0 by simp [g2]] at hst
        have hcy1 : 0 < cy := by omega
        have HST := Lib.hid hst; clear hst hgo
        have hown := (ho.al (.cells #[.int .u64 (((cy : Int)) % 65536)] 36)).row
        have hcell : Hid ((wo.alloc (.cells #[.int .u64 (((cy : Int)) % 65536)] 36)).cell? ⟨wo.heap.size, 0, none⟩ = some (.int .u64 (((cy : Int)) % 65536))) := (World.ownsRow_lit (e := 36) (base := 0) (size := 1) wo #[.int .u64 (((cy : Int)) % 65536)] 1 (Nat.zero_le _) (by decide) (by simp)).cellAt 0 (by decide)
        go_wp2_with (at_builtin; refine wpList_append_own _ rfl _ _ 22 rfl w2.heap.size 36 i0 (.int .u64 0) 1 8 Try.underlying22 hi hz0 hz1 hz2 rfl (by decide) _ os.length (os.map enc) rfl hown ⟨wo.heap.size, 0, none⟩ 1 1 [.int .u64 (((cy : Int)) % 65536)] rfl ?n1 ?n2 ?n3 ?n4 ?n5 ?n6 ?_)
        case n1 => rfl
        case n2 =>
          intro j u hu
          cases j with
          | zero => simp at hu; subst hu; exact hcell.out
          | succ j => simp at hu
        case n3 => intro u hu; simp at hu; subst hu; rfl
        case n4 => unfold maxLen; omega
        case n5 => omega
        case n6 => exact Nat.le_trans hb.size (by simp)
        intro v' w4 hown2 hgr2 hnil2
        obtain ⟨pa2, ca2, rfl, ho2⟩ := own_more (d := (cy) % 65536) (by omega) hown2 ho.dig (by omega)
        have hb2 : Below w2.heap.size w2 w4 := by
          refine (hb.alloc hb.size _).grown hgr2 (Nat.le_trans hb.size (by simp)) (fun g hg => ?_)
          rcases ho.cases with ⟨rfl, _⟩ | ⟨g', rfl, h1, _⟩
          · simp [Value.ownBlock] at hg
          · simp [Value.ownBlock] at hg; omega
        have e1 : (cy) % 65536 = dg 65536 (X + Y) i := by rw [← HST.out.1]; congr 1; omega
        have e2 : (cy) / 65536 = cin 65536 X Y (i + 1) := by rw [← HST.out.2]; congr 1; omega
        have HO2 : Hid (os ++ [(cy) % 65536] = low 65536 (X + Y) (i + 1)) := by rw [Hid, low, ← HO.out, e1]
        have hul3 : (os ++ [(cy) % 65536]).length ≤ i + 1 := by simp; omega
        obtain ⟨us2, hus2⟩ : ∃ z, z = os ++ [(cy) % 65536] := ⟨_, rfl⟩
        rw [← hus2] at HO2 hul3 ho2 ⊢
        have HCY2 := Lib.hid e2
        have hcl := CL.out (i + 1)
        rw [← e2] at hcl
        clear hus2 hown2 hgr2 hnil2 hown hcell hb ho HO HCY e1 e2
        go_wp2_with fail
        go_roundw
        case rel => exact ⟨i + 1, (cy) / 65536, pa2, ca2, us2, rfl, by simp, by simp, by omega, hul3, hcl, HCY2, HO2, ho2, hb2⟩
        case measure => simp [intOf]; omega
end Go.Proofs.RN
