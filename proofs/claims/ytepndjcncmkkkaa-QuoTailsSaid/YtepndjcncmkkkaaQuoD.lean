/- The contract of quo.Div: long division. -/
import Derived.Test.YtepndjcncmkkkaaQuoC
import Derived.Test.YtepndjcncmkkkaaZeros
namespace Go.Proofs.QT
open Go.RowKit
open Go.Proofs
open Go.Proofs.NP
open Go.Proofs.SL
open Go.Proofs.QP
set_option linter.unusedVariables false
set_option linter.unusedSimpArgs false
variable {w : World} {a b : Option Addr} {ca cb l k : Nat} {xs ys zs : List Nat}

/-- a quotient and what is left, each in a block of its own -/
def GivesQ (w : World) (qs rs : List Nat) (c : Int) (en : Ending) (w' : World) : Prop :=
  ∃ p cp r cr, en = .returned (.tuple #[.slice p qs.length cp, .slice r rs.length cr, .int .i64 c]) ∧ Own 36 w.heap.size w' p cp qs ∧ Own 36 w.heap.size w' r cr rs ∧ (∀ g, r = some ⟨g, 0, none⟩ → some g ≠ blk p) ∧ Below w.heap.size w w'
theorem ownNil (B : Nat) (w : World) : Own 36 B w none 0 [] := ⟨Dig.nil _, World.ownsRow_nil w _ _ _⟩

theorem lenW (x : Nat) (z : Nat) (hx : x < 18446744073709551616) (hz : z = bitLen x) (w : World) :
    Calls Try.prog 35 #[.int .u64 (x : Int)] w fun e w' => e = .returned (.int .i64 (z : Int)) ∧ w = w' := by
  subst hz
  have := W.len (x : Int) (by omega) (by omega) w
  simpa using this
theorem shlI (hx : Rd w a ca xs) (lx : xs.length = l) (h : l ≤ 100000) (z : Int) (i : Nat) (hzi : z = i) (hi : i ≤ 65536) (hz : zs = L (V xs * 2 ^ i)) : Calls Try.prog 23 #[.slice a l ca, .int .i64 z] w (NR.GivesE 36 w zs) := by
  subst hzi; exact NR.shl_ok hx lx h i hi hz
theorem shrI (hx : Rd w a ca xs) (lx : xs.length = l) (h : l ≤ 100000) (z : Int) (i : Nat) (hzi : z = i) (hi : i ≤ 65536) (hz : zs = L (V xs / 2 ^ i)) : Calls Try.prog 39 #[.slice a l ca, .int .i64 z] w (NR.GivesE 36 w zs) := by
  subst hzi; exact NR.shr_ok hx lx h i hi hz

set_option maxHeartbeats 4000000 in
theorem div_zero (hx : Rd w a ca xs) (hy : Rd w b cb ys) (lx : xs.length = l) (ly : ys.length = k) (h : l ≤ 10000) (h' : k ≤ 10000) (h0 : V ys = 0) :
    Calls Try.prog 14 #[.slice a l ca, .slice b k cb] w (GivesQ w [] [] 7) := by
  have HA := Lib.hid (NR.trim (zs := L (V xs)) hx lx (by omega) rfl)
  have HB := Lib.hid (fun (w1 : World) (hy : Rd w1 b cb ys) => NR.trim (zs := []) hy ly (by omega) (by rw [h0]; rfl))
  have HY := Lib.hid hy
  obtain ⟨es, hes⟩ : ∃ es, es = L (V xs) := ⟨_, rfl⟩
  rw [← hes] at HA
  clear hx hy lx ly h0 hes
  go_enter Try.func14, Try.ntmps14
  go_wp2_with fail
  refine HA.out.mono ?_
  rintro e w1 ⟨p1, c1, rfl, ho1, hb1⟩
  have HY1 := HY.out.nx hb1
  have HK := Lib.hid hb1
  clear HA ho1 hb1 HY
  go_wp2_with fail
  refine (HB.out w1 HY1).mono ?_
  rintro e w2 ⟨p2, c2, rfl, ho2, hb2⟩
  have hf := Lib.hid (show GivesQ w [] [] 7 (.returned (.tuple #[.slice none 0 0, .slice none 0 0, .int .i64 7])) w2 from ⟨none, 0, none, 0, rfl, ownNil _ _, ownNil _ _, by simp, Kp.nx HK.out hb2⟩)
  clear HB HY1 ho2 hb2
  simp only [List.length_nil]
  go_wp2_with fail
  go_ret3
  exact hf.out

set_option maxHeartbeats 4000000 in
theorem div_less (hx : Rd w a ca xs) (hy : Rd w b cb ys) (lx : xs.length = l) (ly : ys.length = k) (h : l ≤ 10000) (h' : k ≤ 10000) (h0 : V xs < V ys) (hz : zs = L (V xs)) :
    Calls Try.prog 14 #[.slice a l ca, .slice b k cb] w (GivesQ w [] zs 0) := by
  obtain ⟨bs, hbs⟩ : ∃ bs, bs = L (V ys) := ⟨_, rfl⟩
  have HA := Lib.hid (NR.trim hx lx (by omega) hz)
  have HB := Lib.hid (fun (w1 : World) (hy : Rd w1 b cb ys) => NR.trim hy ly (by omega) hbs)
  have HY := Lib.hid hy
  have lz : zs.length ≤ 10000 := by have := L_V_len hx.ws; rw [hz]; omega
  have lb : bs.length ≤ 10000 := by have := L_V_len hy.ws; rw [hbs]; omega
  have lb0 : ¬ (bs.length : Int) = 0 := by
    intro h1
    have : bs = [] := List.eq_nil_of_length_eq_zero (by omega)
    rw [hbs, L_nil] at this; omega
  have lb1 : 0 < bs.length := by omega
  have HC := Lib.hid (fun (w1 : World) p1 c1 p2 c2 (h1 : Rd w1 p1 c1 zs) (h2 : Rd w1 p2 c2 bs) => NR.cmp h1 h2 rfl rfl (by omega) (by omega) (-1) (by rw [hz, hbs, V_L, V_L, NT.cmpI, if_pos h0]))
  clear hx hy lx ly h0 hbs hz lb0
  go_enter Try.func14, Try.ntmps14
  go_wp2_with fail
  refine HA.out.mono ?_
  rintro e w1 ⟨p1, c1, rfl, ho1, hb1⟩
  have HY1 := HY.out.nx hb1
  have HK := Lib.hid hb1
  clear HA hb1 HY
  go_wp2_with fail
  refine (HB.out w1 HY1).mono ?_
  rintro e w2 ⟨p2, c2, rfl, ho2, hb2⟩
  have HC1 := Lib.hid (HC.out w2 p1 c1 p2 c2 (ho1.rd.nx hb2) ho2.rd)
  have hf := Lib.hid (show GivesQ w [] zs 0 (.returned (.tuple #[.slice none 0 0, .slice p1 zs.length c1, .int .i64 0])) w2 from ⟨none, 0, p1, c1, rfl, ownNil _ _, ho1.nx hb2, by simp [blk], Kp.nx HK.out hb2⟩)
  clear HB HY1 ho1 ho2 hb2 HC
  go_wp2_with fail
  refine HC1.out.mono ?_; rintro e w' ⟨rfl, rfl⟩
  go_wp2_with fail
  go_ret3
  exact hf.out

set_option maxHeartbeats 4000000 in
theorem div_short (hx : Rd w a ca xs) (hy : Rd w b cb ys) (lx : xs.length = l) (ly : ys.length = k) (h : l ≤ 10000) (h' : k ≤ 10000) (d : Nat) (hd : L (V ys) = [d]) (h0 : V ys ≤ V xs) (qs rs : List Nat) (hq : qs = L (V xs / V ys)) (hr : rs = L (V xs % V ys)) :
    Calls Try.prog 14 #[.slice a l ca, .slice b k cb] w (GivesQ w qs rs 0) := by
  obtain ⟨es, hes⟩ : ∃ es, es = L (V xs) := ⟨_, rfl⟩
  have HA := Lib.hid (NR.trim hx lx (by omega) hes)
  have HB := Lib.hid (fun (w1 : World) (hy : Rd w1 b cb ys) => NR.trim (zs := [d]) hy ly (by omega) hd.symm)
  have HY := Lib.hid hy
  have la : es.length ≤ 10000 := by have := L_V_len hx.ws; rw [hes]; omega
  have wd : d < 18446744073709551616 := by have := Ws_L (V ys); rw [hd] at this; exact this d (by simp)
  have ed : V ys = d := by have := V_L (V ys); rw [hd] at this; simpa [V, val] using this.symm
  have hd0 : 0 < d := by
    have := top_key (L (V ys)) 0 (by rw [hd]; rfl) (digs_last 18446744073709551616 (by decide) (V ys))
    simpa [hd] using this
  obtain ⟨z, hzc, hz0'⟩ : ∃ z : Int, z = NT.cmpI (V xs) (V ys) ∧ 0 ≤ z := ⟨_, rfl, by unfold NT.cmpI; rw [if_neg (by omega)]; split <;> omega⟩
  obtain ⟨r, hrr⟩ : ∃ r, r = V xs % d := ⟨_, rfl⟩
  have hrd : r < 18446744073709551616 := by rw [hrr]; exact Nat.lt_trans (Nat.mod_lt _ hd0) wd
  have HC := Lib.hid (fun (w1 : World) p1 c1 p2 c2 (h1 : Rd w1 p1 c1 es) (h2 : Rd w1 p2 c2 [d]) => NR.cmp (k := 1) h1 h2 rfl rfl (by omega) (by omega) z (by rw [hzc, hes, ← hd, V_L, V_L]))
  have HS := Lib.hid (fun (w1 : World) p1 c1 (h1 : Rd w1 p1 c1 es) => short h1 rfl (by omega) d r hd0 wd (zs := qs) (by rw [hq, hes, V_L, ed]) (by rw [hrr, hes, V_L]))
  have HO := Lib.hid (fun (w1 : World) => (NR.of r w1 hrd).mono (R' := Gives 36 w1 rs) (fun e w' h => by rw [hr, ed, ← hrr]; exact h))
  clear hx hy lx ly h0 hes hq hr hzc hrr ed hd
  go_enter Try.func14, Try.ntmps14
  go_wp2_with fail
  refine HA.out.mono ?_
  rintro e w1 ⟨p1, c1, rfl, ho1, hb1⟩
  have HY1 := HY.out.nx hb1
  have HK := Lib.hid hb1
  clear HA hb1 HY
  go_wp2_with fail
  refine (HB.out w1 HY1).mono ?_
  rintro e w2 ⟨p2, c2, rfl, ho2, hb2⟩
  have ha2 := ho1.rd.nx hb2
  obtain ⟨g2, rfl, _, _⟩ := ho2.some_of (by simp)
  have HC1 := Lib.hid (HC.out w2 p1 c1 (some ⟨g2, 0, none⟩) c2 ha2 ho2.rd)
  have HS1 := Lib.hid (HS.out w2 p1 c1 ha2)
  have hcell := ho2.cell 0 (by simp)
  simp only [List.getElem?_cons_zero, Option.getD_some] at hcell
  have HK2 := Lib.hid (Kp.nx HK.out hb2)
  clear HB HY1 HK ho1 ho2 hb2 HC HS ha2
  simp only [List.length_cons, List.length_nil, Nat.zero_add]
  go_wp2_with fail
  refine HC1.out.mono ?_; rintro e w' ⟨rfl, rfl⟩
  go_wp2_with fail
  refine HS1.out.mono ?_; rintro e w3 ⟨p3, c3, rfl, ho3, hb3⟩
  have HF := Lib.hid (And.intro ho3 hb3)
  clear ho3 hb3 HC1 HS1
  go_wp2_with fail
  refine (HO.out w3).mono ?_; rintro e w4 ⟨p4, c4, rfl, ho4, hb4⟩
  have hf := Lib.hid (show GivesQ w qs rs 0 (.returned (.tuple #[.slice p3 qs.length c3, .slice p4 rs.length c4, .int .i64 0])) w4 from
    ⟨p3, c3, p4, c4, rfl, (HF.out.1.nx hb4).mono HK2.out.size, ho4.mono (Nat.le_trans HK2.out.size HF.out.2.size), by
      intro g hg
      rcases HF.out.1.cases with ⟨rfl, _⟩ | ⟨j, rfl, _, h1, _⟩
      · simp [blk]
      · rcases ho4.cases with ⟨rfl, _⟩ | ⟨j2, rfl, h2, _⟩
        · simp at hg
        · simp at hg; simp [blk]; omega, Kp.nx HK2.out (Kp.nx HF.out.2 hb4)⟩)
  clear ho4 hb4 HO
  go_wp2_with fail
  go_ret3
  exact hf.out
end Go.Proofs.QT
