/- The contracts of package quo. -/
import Derived.Test.YticickjnlkbkoaaGreatMN
import Derived.Test.YticickjnlkbkoaaGreatMA
import Derived.Test.YticickjnlkbkoaaGreatMW
import Derived.Deep.RegionHeld3
import Derived.IntWalk
import Derived.Test.YticickjnlkbkoaaGreatMR
import Derived.ScopeJumps
/- Plain arithmetic of long division over limbs. No program in sight. -/
namespace Go.Proofs.QP
open Go.Proofs.NP
open Go.Proofs.SL
set_option linter.unusedVariables false
set_option linter.unusedSimpArgs false

theorem V_drop (xs : List Nat) (i : Nat) (h : i < xs.length) : V (xs.drop i) = xs[i] + 18446744073709551616 * V (xs.drop (i + 1)) := by
  rw [List.drop_eq_getElem_cons h]; rfl
theorem V_drop_set (os : List Nat) (i v : Nat) (h : i < os.length) : V ((os.set i v).drop i) = v + 18446744073709551616 * V (os.drop (i + 1)) := by
  rw [V_drop _ _ (by simpa using h)]
  rw [List.getElem_set_self, List.drop_set_of_lt (by omega)]
theorem short_step (Q d r A x : Nat) (hd : 0 < d) (h : Q * d + r = A) (hr : r < d) (hx : x < 18446744073709551616) :
    ((r * 18446744073709551616 + x) / d + 18446744073709551616 * Q) * d + (r * 18446744073709551616 + x) % d = x + 18446744073709551616 * A ∧ (r * 18446744073709551616 + x) / d < 18446744073709551616 ∧ (r * 18446744073709551616 + x) % d < d := by
  have e := Nat.div_add_mod (r * 18446744073709551616 + x) d
  generalize hB : (18446744073709551616 : Nat) = B at *
  refine ⟨?_, ?_, Nat.mod_lt _ hd⟩
  · subst h
    rw [Nat.add_mul, Nat.mul_comm _ d, Nat.mul_add, Nat.mul_comm r B, Nat.mul_assoc B Q d] at *
    generalize d * ((B * r + x) / d) = m at *
    omega
  · rw [Nat.div_lt_iff_lt_mul hd]
    have : (r + 1) * B ≤ d * B := Nat.mul_le_mul_right _ hr
    rw [Nat.succ_mul] at this
    rw [Nat.mul_comm B d]; omega
theorem short_done (Q d r A : Nat) (hd : 0 < d) (h : Q * d + r = A) (hr : r < d) : Q = A / d ∧ r = A % d := by
  subst h
  constructor
  · rw [Nat.mul_comm, Nat.add_comm, Nat.add_mul_div_left _ _ hd, Nat.div_eq_of_lt hr]; omega
  · rw [Nat.mul_comm, Nat.add_comm, Nat.add_mul_mod_self_left, Nat.mod_eq_of_lt hr]

/-- one limb more of 'take' -/
theorem take_step (b W D q W0 ov bo x wi w0 high low low2 c bo2 P : Nat) (h : W + D * q = W0 + (ov + bo) * P)
    (h1 : x * q = high * b + low) (h2 : low + ov = low2 + c * b) (h3 : wi + low2 + bo = w0 + bo2 * b) :
    (W + wi * P) + (D + x * P) * q = (W0 + w0 * P) + ((high + c) + bo2) * (P * b) := by
  have e1 : (D + x * P) * q = D * q + (x * q) * P := by rw [Nat.add_mul]; congr 1; rw [Nat.mul_right_comm]
  have e2 : x * q + ov + wi + bo = (high + c) * b + w0 + bo2 * b := by
    rw [h1, Nat.add_mul]; omega
  have e3 : (x * q + ov + wi + bo) * P = ((high + c) * b + w0 + bo2 * b) * P := by rw [e2]
  rw [e1]
  have e4 : ((high + c) + bo2) * (P * b) = ((high + c) * b) * P + (bo2 * b) * P := by
    rw [Nat.add_mul, Nat.mul_comm P b, Nat.mul_assoc, Nat.mul_assoc]
  rw [e4]
  simp only [Nat.add_mul] at e3 h ⊢
  omega
theorem take_end (b W D q W0 ov bo wi w0 bo2 P : Nat) (h : W + D * q = W0 + (ov + bo) * P) (h3 : wi + ov + bo = w0 + bo2 * b) :
    (W + wi * P) + D * q = (W0 + w0 * P) + bo2 * (P * b) := by
  have e3 : (wi + ov + bo) * P = (w0 + bo2 * b) * P := by rw [h3]
  have e4 : bo2 * (P * b) = bo2 * b * P := by rw [Nat.mul_comm P b, Nat.mul_assoc]
  rw [e4]
  simp only [Nat.add_mul] at e3 h ⊢
  omega
theorem back_step (b W D W0 c x wi w0 c2 P : Nat) (h : W + c * P = W0 + D) (h1 : w0 + x + c = wi + c2 * b) :
    (W + wi * P) + c2 * (P * b) = (W0 + w0 * P) + (D + x * P) := by
  have e3 : (w0 + x + c) * P = (wi + c2 * b) * P := by rw [h1]
  have e4 : c2 * (P * b) = c2 * b * P := by rw [Nat.mul_comm P b, Nat.mul_assoc]
  rw [e4]
  simp only [Nat.add_mul] at e3 h ⊢
  omega
/-- what is carried over stays a limb -/
theorem over_lt (b x q ov high low low2 c : Nat) (hb : 2 ≤ b) (hx : x < b) (hq : q < b) (ho : ov < b) (h1 : x * q = high * b + low) (h2 : low + ov = low2 + c * b) : high + c < b := by
  have m : x * q ≤ (b - 1) * (b - 1) := Nat.mul_le_mul (by omega) (by omega)
  obtain ⟨k, rfl⟩ : ∃ k, b = k + 1 := ⟨b - 1, by omega⟩
  simp only [Nat.add_sub_cancel] at m
  have e : (high + c) * (k + 1) + low2 = x * q + ov := by rw [Nat.add_mul]; omega
  rcases Nat.lt_or_ge (high + c) (k + 1) with h | h
  · exact h
  · have := Nat.mul_le_mul_right (k + 1) h
    have e2 : (k + 1) * (k + 1) = k * k + k + k + 1 := by rw [Nat.mul_succ, Nat.succ_mul]; omega
    omega

/-- lists with a window -/
theorem mid_get (pre ws post : List Nat) (j : Nat) (h : j < ws.length) : (pre ++ ws ++ post)[pre.length + j]?.getD 0 = ws[j] := by
  rw [List.append_assoc, List.getElem?_append_right (by omega), Nat.add_sub_cancel_left, List.getElem?_append_left h]
  simp [h]
theorem mid_set (pre ws post : List Nat) (j v : Nat) (h : j < ws.length) : (pre ++ ws ++ post).set (pre.length + j) v = pre ++ ws.set j v ++ post := by
  rw [List.append_assoc, List.set_append_right _ _ (by omega), Nat.add_sub_cancel_left, List.set_append_left _ _ h, List.append_assoc]
theorem take_set (ws : List Nat) (j v : Nat) (h : j < ws.length) : (ws.set j v).take (j + 1) = ws.take j ++ [v] := by
  rw [List.take_succ_eq_append_getElem (by simpa using h), List.take_set_of_le (Nat.le_refl _)]
  simp
theorem V_take_set (ws : List Nat) (j v : Nat) (h : j < ws.length) : V ((ws.set j v).take (j + 1)) = V (ws.take j) + v * 18446744073709551616 ^ j := by
  rw [take_set ws j v h, V, val_append]
  simp [val, V, Nat.min_eq_left (Nat.le_of_lt h), Nat.mul_comm]
theorem V_take (ws : List Nat) (j : Nat) (h : j < ws.length) : V (ws.take (j + 1)) = V (ws.take j) + ws[j] * 18446744073709551616 ^ j := val_take_succ _ ws j h

/-- the guess is not too small -/
theorem guess_ge (P d hi lo t m : Nat) (ht : 0 < t) (hP : P < (hi * 18446744073709551616 + lo + 1) * m) (hd : t * m ≤ d) : P / d ≤ (hi * 18446744073709551616 + lo) / t := by
  by_cases hd0 : d = 0
  · subst hd0; simp
  rw [Nat.le_div_iff_mul_le ht]
  have h1 : P / d * (t * m) ≤ P := Nat.le_trans (Nat.mul_le_mul_left _ hd) (Nat.div_mul_le_self _ _)
  have h2 : P / d * t * m < (hi * 18446744073709551616 + lo + 1) * m := by rw [Nat.mul_assoc]; omega
  have := Nat.lt_of_mul_lt_mul_right h2
  omega
end Go.Proofs.QP
/- Contracts of quo.short, guess. -/
namespace Go.Proofs.QT
open Go.RowKit
open Go.Proofs
open Go.Proofs.NP
open Go.Proofs.SL
open Go.Proofs.QP
set_option linter.unusedVariables false
set_option maxRecDepth 20000
set_option linter.unusedSimpArgs false
variable {w : World} {a b : Option Addr} {ca cb l k : Nat} {xs ys zs : List Nat}

set_option maxHeartbeats 2000000 in
theorem short (hx : Rd w a ca xs) (lx : xs.length = l) (h : l ≤ 100000) (d r : Nat) (hd : 0 < d) (hd1 : d < 18446744073709551616) (hz : zs = L (V xs / d)) (hr : r = V xs % d) :
    Calls Tryz.prog 74 #[.slice a l ca, .int .u64 (d : Int)] w fun e w' => ∃ p c, e = .returned (.tuple #[.slice p zs.length c, .int .u64 (r : Int)]) ∧ Own 66 w.heap.size w' p c zs ∧ Below w.heap.size w w' := by
  subst lx
  obtain ⟨i0, hi, hz0, hz1, hz2⟩ := info_parts NT.Tryz.info66
  obtain ⟨wm, hmk, hown0, hgr0⟩ := run_make_full (P := Tryz.prog) w w.heap.size 45 66 i0 (.int .u64 0) 1 Tryz.underlying45 hi hz0 hz1 .i64 .i64 xs.length (by rw [hz2]; omega) (by unfold maxLen; omega) (Nat.le_refl _)
  rw [Nat.mul_one, show (Value.int .u64 0).cells = #[Value.int .u64 0] from rfl, toList_madeCells_one] at hown0
  have ho0 : Own 66 w.heap.size wm (some ⟨w.heap.size, 0, none⟩) xs.length (List.replicate xs.length 0) := ⟨Dig.zeros (by decide) _, by simpa [enc] using hown0⟩
  have hb0 : Below w.heap.size w wm := (Below.refl _ _).grown hgr0 (Nat.le_refl _) (fun k hk => by cases hk)
  clear hown0 hgr0
  have hEq := Lib.hid hmk
  have HZ := Lib.hid hz
  have HR := Lib.hid hr
  clear hmk hz hr
  go_enter Tryz.func74, Tryz.ntmps74
  go_wp2_with (rw [hEq.out])
  go_loopw [5, 6] (fun s5 s6 wr => ∃ (k r : Nat) (os : List Nat), s5 = .int .u64 r ∧ s6 = .int .i64 ((k : Int) - 1) ∧ k ≤ xs.length ∧ r < d ∧ os.length = xs.length ∧ Hid (V (os.drop k) * d + r = V (xs.drop k)) ∧ Own 66 w.heap.size wr (some ⟨w.heap.size, 0, none⟩) xs.length os ∧ Below w.heap.size w wr) (fun _ s _ => (intOf s + 1).toNat)
  case atStart => exact ⟨xs.length, 0, _, rfl, rfl, by omega, hd, by simp, by simp [Hid, V, val], ho0, hb0⟩
  case round =>
    obtain ⟨k, r', os, rfl, rfl, hk, hrd, hol, HE, ho, hb⟩ := hrel
    cases k with
    | zero =>
      have hv := short_done _ _ _ _ hd HE.out hrd
      simp only [List.drop_zero] at hv
      have HT := Lib.hid (NR.trim (zs := zs) (l := xs.length) ho.rd hol h (by rw [HZ.out, hv.1]))
      have e2 := Lib.hid (show r' = r by rw [HR.out]; exact hv.2)
      have hbb := Lib.hid hb
      clear hv ho hb HE ho0 hb0
      go_wp2_with fail
      refine HT.out.mono ?_
      rintro e w3 ⟨q3, d3, rfl, ho3, hb3⟩
      have hf := Lib.hid (show Own 66 w.heap.size w3 q3 d3 zs ∧ Below w.heap.size w w3 from ⟨ho3.mono hbb.out.size, hbb.out.trans (hb3.mono hbb.out.size)⟩)
      clear HT ho3 hb3
      go_wp2
      rw [e2.out]
      go_ret2
      exact ⟨_, _, rfl, hf.out⟩
    | succ n =>
      rw [show ((n + 1 : Nat) : Int) - 1 = (n : Int) by omega]
      have hn : n < xs.length := by omega
      rcases hx.at' with h0 | ⟨b, off, rfl, hbk, hc⟩
      · rw [h0] at hn; simp at hn
      have c1 : wr.cell? ⟨b, off + n, none⟩ = some (.int .u64 (xs[n] : Nat)) := by rw [hb.cell (p := ⟨b, off + n, none⟩) hbk]; exact hc n hn
      have hxn := hx.ws.get n hn
      have co := ho.cell n (by omega)
      have cf := ho.free n
      obtain ⟨s1, s2, s3⟩ := short_step _ d r' _ xs[n] hd HE.out hrd hxn
      have NX := Lib.hid (fun kk (D : Int) (hD : D = (((r' * 18446744073709551616 + xs[n]) / d : Nat) : Int)) => show Own 66 w.heap.size ((wr.drewN kk).setCell ⟨w.heap.size, n, none⟩ (.int .u64 D)) (some ⟨w.heap.size, 0, none⟩) xs.length (os.set n ((r' * 18446744073709551616 + xs[n]) / d)) ∧ Below w.heap.size w ((wr.drewN kk).setCell ⟨w.heap.size, n, none⟩ (.int .u64 D)) by
        subst hD
        exact ⟨((ho.dr kk).store n _ s2).1, (below_drewN hb kk).setCell (p := ⟨w.heap.size, n, none⟩) (Nat.le_refl _) _⟩)
      have HE2 : Hid (V ((os.set n ((r' * 18446744073709551616 + xs[n]) / d)).drop n) * d + (r' * 18446744073709551616 + xs[n]) % d = V (xs.drop n)) := by
        rw [Hid, V_drop_set _ _ _ (by omega), V_drop xs n hn]; exact s1
      have HS3 := Lib.hid s3
      obtain ⟨x, hxe⟩ : ∃ x, x = xs[n] := ⟨_, rfl⟩
      rw [← hxe] at c1 hxn NX HE2 HS3
      clear s1 s2 s3 hxe HE ho hb hc
      go_wp2_with fail
      refine (W.div_ok _ _ _ (by omega) (by omega) (by omega) (by omega) (by omega) _).mono ?_; rintro e1 w1 ⟨rfl, kk, rfl⟩
      go_wp2_with fail
      go_roundw
      case rel =>
        have := NX.out kk _ (show (((r' : Int) * 18446744073709551616 + (x : Int)) / (d : Int)) = _ by simp)
        exact ⟨n, (r' * 18446744073709551616 + x) % d, _, W.val_int (by simp), rfl, by omega, HS3.out, by simp [hol], HE2, this.1, this.2⟩
      case measure => simp [intOf]

theorem guess_most (hi lo d : Nat) (h : d ≤ hi) (w : World) :
    Calls Tryz.prog 75 #[.int .u64 (hi : Int), .int .u64 (lo : Int), .int .u64 (d : Int)] w fun e w' => e = .returned (.int .u64 18446744073709551615) ∧ ∃ kk, w.drewN kk = w' := by
  go_enter Tryz.func75, Tryz.ntmps75
  go_wp2_with fail
  go_ret
  exact ⟨rfl, 0, rfl⟩
theorem guess_div (hi lo d : Nat) (h : hi < d) (hd : d < 18446744073709551616) (hl : lo < 18446744073709551616) (w : World) :
    Calls Tryz.prog 75 #[.int .u64 (hi : Int), .int .u64 (lo : Int), .int .u64 (d : Int)] w fun e w' => e = .returned (.int .u64 (((hi * 18446744073709551616 + lo) / d : Nat) : Int)) ∧ ∃ kk, w.drewN kk = w' := by
  go_enter Tryz.func75, Tryz.ntmps75
  go_wp2_with fail
  refine (W.div_ok _ _ _ (by omega) (by omega) (by omega) (by omega) (by omega) _).mono ?_; rintro e1 w1 ⟨rfl, kk, rfl⟩
  go_wp2_with fail
  go_ret
  exact ⟨W.ret_int (by simp), kk, rfl⟩
/-- the guess, at all -/
def gs (hi lo d : Nat) : Nat := if d ≤ hi then 18446744073709551615 else (hi * 18446744073709551616 + lo) / d
theorem gs_lt (hi lo d : Nat) (hd : 0 < d) (hl : lo < 18446744073709551616) : gs hi lo d < 18446744073709551616 := by
  unfold gs; split
  · decide
  · rw [Nat.div_lt_iff_lt_mul hd]
    have : (hi + 1) * 18446744073709551616 ≤ d * 18446744073709551616 := Nat.mul_le_mul_right _ (by omega)
    omega
theorem guess (hi lo d g : Nat) (hd : d < 18446744073709551616) (hl : lo < 18446744073709551616) (w : World) (hg : g = gs hi lo d) :
    Calls Tryz.prog 75 #[.int .u64 (hi : Int), .int .u64 (lo : Int), .int .u64 (d : Int)] w fun e w' => e = .returned (.int .u64 (g : Int)) ∧ ∃ kk, w.drewN kk = w' := by
  subst hg
  unfold gs
  split
  · rename_i h; exact guess_most hi lo d h w
  · rename_i h; exact guess_div hi lo d (by omega) hd hl w
end Go.Proofs.QT
/- Contracts of quo.take, back: a window of a slice is written over. -/
namespace Go.Proofs.QT
open Go.RowKit
open Go.Proofs
open Go.Proofs.NP
open Go.Proofs.SL
open Go.Proofs.QP
set_option linter.unusedVariables false
set_option maxRecDepth 20000
set_option linter.unusedSimpArgs false

theorem gtrans {w1 w2 w3 : World} {row : Option Nat} (h : w1.grownBy w2 row) (k : w2.grownBy w3 row) : w1.grownBy w3 row :=
  ⟨k.os.trans h.os, k.tape.trans h.tape, k.output.trans h.output, Nat.le_trans h.size k.size, fun j hj hne => (k.block j (Nat.lt_of_lt_of_le hj h.size) hne).trans (h.block j hj hne)⟩
theorem grefl (w : World) (row : Option Nat) : w.grownBy w row := ⟨rfl, rfl, rfl, Nat.le_refl _, fun _ _ _ => rfl⟩
theorem gbelow {w w' : World} {H g : Nat} (h : w.grownBy w' (some g)) (hH : H ≤ g) (hs : H ≤ w.heap.size) : Below H w w' :=
  (Below.refl H w).grown h hs (fun k hk => by cases hk; exact hH)

/-- the calls of package word, in naturals -/
theorem mulW (x q hi lo : Nat) (hx : x < 18446744073709551616) (hq : q < 18446744073709551616) (e1 : hi = x * q / 18446744073709551616) (e2 : lo = x * q % 18446744073709551616) (w : World) :
    Calls Tryz.prog 70 #[.int .u64 (x : Int), .int .u64 (q : Int)] w fun e w' => e = .returned (.tuple #[.int .u64 (hi : Int), .int .u64 (lo : Int)]) ∧ w = w' := by
  subst e1 e2
  refine (W.mul (x : Int) (q : Int) (by omega) (by omega) (by omega) (by omega) w).mono ?_
  rintro e w' ⟨rfl, rfl⟩
  exact ⟨W.ret2 (by simp) (by simp), rfl⟩
theorem addW (x y c s d : Nat) (hc : c ≤ 1) (e1 : s = (x + y + c) % 18446744073709551616) (e2 : d = (x + y + c) / 18446744073709551616) (w : World) :
    Calls Tryz.prog 71 #[.int .u64 (x : Int), .int .u64 (y : Int), .int .u64 (c : Int)] w fun e w' => e = .returned (.tuple #[.int .u64 (s : Int), .int .u64 (d : Int)]) ∧ w = w' := by
  subst e1 e2
  refine (W.add (x : Int) (y : Int) (c : Int) (by omega) (by omega) (by omega) (by omega) w).mono ?_
  rintro e w' ⟨rfl, rfl⟩
  have : W.cry (c : Int) = c := by unfold W.cry; omega
  rw [this]
  exact ⟨W.ret2 (by simp) (by simp), rfl⟩
theorem subW (x y c s d : Nat) (hx : x < 18446744073709551616) (hy : y < 18446744073709551616) (hc : c ≤ 1) (e1 : s = (x + 18446744073709551616 - y - c) % 18446744073709551616) (e2 : d = if x < y + c then 1 else 0) (w : World) :
    Calls Tryz.prog 98 #[.int .u64 (x : Int), .int .u64 (y : Int), .int .u64 (c : Int)] w fun e w' => e = .returned (.tuple #[.int .u64 (s : Int), .int .u64 (d : Int)]) ∧ w = w' := by
  refine (W.sub (x : Int) (y : Int) (c : Int) (by omega) (by omega) (by omega) (by omega) (by omega) w).mono ?_
  rintro e w' ⟨rfl, rfl⟩
  have : W.cry (c : Int) = c := by unfold W.cry; omega
  rw [this]
  refine ⟨W.ret2 (by omega) ?_, rfl⟩
  unfold W.bor
  rw [e2]
  split <;> split <;> first | rfl | omega

/-- what holds while a window is written over -/
structure Win (B g cap : Nat) (pre ws post : List Nat) (n i : Nat) (w wr : World) (vs : List Nat) : Prop where
  len : vs.length = n + 1
  tail : ∀ j, i ≤ j → vs[j]? = ws[j]?
  own : Own 66 B wr (some ⟨g, 0, none⟩) cap (pre ++ vs ++ post)
  gr : w.grownBy wr (some g)

theorem Win.cell {B g cap : Nat} {pre ws post : List Nat} {n i : Nat} {w wr : World} {vs : List Nat} (E : Win B g cap pre ws post n i w wr vs) (hi : i ≤ n) (lw : ws.length = n + 1) (o : Nat) (lo : pre.length = o) :
    wr.cell? ⟨g, o + i, none⟩ = some (.int .u64 (ws[i]?.getD 0 : Nat)) := by
  subst lo
  rw [E.own.cell (pre.length + i) (by simp [E.len]; omega), mid_get _ _ _ _ (by rw [E.len]; omega)]
  have h := E.tail i (Nat.le_refl _)
  rw [List.getElem?_eq_getElem (by rw [E.len]; omega)] at h
  rw [← h]; rfl
theorem Win.next {B g cap : Nat} {pre ws post : List Nat} {n i : Nat} {w wr : World} {vs : List Nat} (E : Win B g cap pre ws post n i w wr vs) (hi : i ≤ n) (o : Nat) (lo : pre.length = o) (v : Nat) (hv : v < 18446744073709551616) :
    Win B g cap pre ws post n (i + 1) w (wr.setCell ⟨g, o + i, none⟩ (.int .u64 (v : Int))) (vs.set i v) ∧ V ((vs.set i v).take (i + 1)) = V (vs.take i) + v * 18446744073709551616 ^ i := by
  subst lo
  have hl : i < vs.length := by rw [E.len]; omega
  have o2 := E.own.store (pre.length + i) v hv
  rw [mid_set _ _ _ _ _ hl] at o2
  refine ⟨⟨by rw [List.length_set]; exact E.len, fun j hj => ?_, o2.1, gtrans E.gr o2.2⟩, V_take_set _ _ _ hl⟩
  rw [List.getElem?_set_ne (by omega)]; exact E.tail j (by omega)

set_option maxHeartbeats 4000000 in
theorem take (B g cap H : Nat) (pre ws post : List Nat) (b : Option Addr) (cb o n cp : Nat) (ds : List Nat) (q : Nat) (w : World)
    (ho : Own 66 B w (some ⟨g, 0, none⟩) cap (pre ++ ws ++ post)) (hb : Sl H w b cb ds) (hH : H ≤ g) (hHw : H ≤ w.heap.size) (lo : pre.length = o) (ln : ds.length = n) (lw : ws.length = n + 1) (hn : n ≤ 100000) (hcp : n + 1 ≤ cp) (hq : q < 18446744073709551616) :
    Calls Tryz.prog 76 #[.slice (some ⟨g, o, none⟩) (n + 1) cp, .slice b n cb, .int .u64 (q : Int)] w fun e w' =>
      ∃ (bo : Nat) (ws' : List Nat), e = .returned (.int .u64 (bo : Int)) ∧ bo ≤ 1 ∧ ws'.length = n + 1 ∧ V ws' + V ds * q = V ws + bo * 18446744073709551616 ^ (n + 1) ∧ Own 66 B w' (some ⟨g, 0, none⟩) cap (pre ++ ws' ++ post) ∧ w.grownBy w' (some g) := by
  have wws : ∀ j (h : j < ws.length), ws[j] < 18446744073709551616 := fun j h => ho.dig _ (by simp)
  have WW := Lib.hid wws
  have WD := Lib.hid hb.dig
  have LN := Lib.hid ln
  have LW := Lib.hid lw
  have LO := Lib.hid lo
  have hsl := hb.at'
  have ho1 := ho.ge
  have hom : o + n + 1 ≤ 9223372036854775807 := by
    have h1 := ho.cap
    have h2 := ho.sl.max
    unfold maxLen at h2
    simp at h1; omega
  have E0 : Win B g cap pre ws post n 0 w w ws := ⟨lw, fun _ _ => rfl, ho, grefl _ _⟩
  clear ho hb ln lw lo wws
  go_enter Tryz.func76, Tryz.ntmps76
  go_wp2
  go_loopw [6, 7, 15] (fun s6 s7 s15 wr => ∃ (i bo ov : Nat) (vs : List Nat), s6 = .int .u64 bo ∧ s7 = .int .u64 ov ∧ s15 = .int .i64 i ∧ i ≤ n ∧ bo ≤ 1 ∧ ov < 18446744073709551616 ∧ Hid (V (vs.take i) + V (ds.take i) * q = V (ws.take i) + (ov + bo) * 18446744073709551616 ^ i) ∧ Win B g cap pre ws post n i w wr vs) (fun _ _ s _ => n - (intOf s).toNat)
  case atStart => exact ⟨0, 0, 0, ws, rfl, rfl, rfl, by omega, by omega, by omega, by simp [Hid, V, val], E0⟩
  case round =>
    obtain ⟨i, bo, ov, vs, rfl, rfl, rfl, hi, hbo, hov, HE, E⟩ := hrel
    have bel := gbelow E.gr hH hHw
    have co := E.cell hi LW.out o LO.out
    have cf := E.own.free (o + i)
    have iw : i < ws.length := by rw [LW.out]; omega
    have w0 := WW.out i iw
    have e0 : ws[i]?.getD 0 = ws[i] := by simp [iw]
    rw [e0] at co
    have VT := V_take ws i iw
    obtain ⟨y, hy⟩ : ∃ y, y = ws[i] := ⟨_, rfl⟩
    rw [← hy] at co w0 VT
    clear hy e0 iw
    by_cases hlt : i < n
    · have hid : i < ds.length := by rw [LN.out]; exact hlt
      rcases hsl with h0 | ⟨b1, o1, rfl, hb1, hc1⟩
      · rw [h0] at hid; simp at hid
      have c1 : wr.cell? ⟨b1, o1 + i, none⟩ = some (.int .u64 (ds[i] : Nat)) := by rw [bel.cell (p := ⟨b1, o1 + i, none⟩) hb1]; exact hc1 i hid
      have wx := WD.out.get i hid
      have VD := V_take ds i hid
      obtain ⟨x, hx⟩ : ∃ x, x = ds[i] := ⟨_, rfl⟩
      rw [← hx] at c1 wx VD
      clear hx hc1 hid
      obtain ⟨hg, hhi⟩ : ∃ t, t = x * q / 18446744073709551616 := ⟨_, rfl⟩
      obtain ⟨lo, hlo⟩ : ∃ t, t = x * q % 18446744073709551616 := ⟨_, rfl⟩
      obtain ⟨l2, hl2⟩ : ∃ t, t = (lo + ov + 0) % 18446744073709551616 := ⟨_, rfl⟩
      obtain ⟨c, hc⟩ : ∃ t, t = (lo + ov + 0) / 18446744073709551616 := ⟨_, rfl⟩
      obtain ⟨v, hv⟩ : ∃ t, t = (y + 18446744073709551616 - l2 - bo) % 18446744073709551616 := ⟨_, rfl⟩
      obtain ⟨d, hd⟩ : ∃ t, t = if y < l2 + bo then 1 else 0 := ⟨_, rfl⟩
      have bl2 : l2 < 18446744073709551616 := by omega
      have bv : v < 18446744073709551616 := by omega
      have bd : d ≤ 1 := by rw [hd]; split <;> omega
      have q1 : x * q = hg * 18446744073709551616 + lo := by rw [hhi, hlo, Nat.mul_comm _ 18446744073709551616]; exact (Nat.div_add_mod _ _).symm
      have q2 : lo + ov = l2 + c * 18446744073709551616 := by omega
      have q3 : v + l2 + bo = y + d * 18446744073709551616 := by rw [hd]; split <;> omega
      have bov := over_lt 18446744073709551616 x q ov hg lo l2 c (by decide) wx hq hov q1 q2
      have HM := Lib.hid (fun w => mulW x q hg lo wx hq hhi hlo w)
      have HA := Lib.hid (fun w => addW lo ov 0 l2 c (by omega) hl2 hc w)
      have HS := Lib.hid (fun w => subW y l2 bo v d w0 bl2 hbo hv hd w)
      have NX := E.next hi o LO.out v bv
      have HE2 : Hid (V ((vs.set i v).take (i + 1)) + V (ds.take (i + 1)) * q = V (ws.take (i + 1)) + ((hg + c) + d) * 18446744073709551616 ^ (i + 1)) := by
        rw [Hid, NX.2, VD, VT, Nat.pow_succ]
        exact take_step _ _ _ _ _ _ _ _ _ _ _ _ _ _ _ _ HE.out q1 q2 q3
      have NW := Lib.hid NX.1
      clear NX VD VT hhi hlo hl2 hc hv hd q1 q2 q3 HE E bel
      go_wp2_with fail
      refine (HM.out _).mono ?_; rintro e1 w1 ⟨rfl, rfl⟩
      go_wp2_with fail
      refine (HA.out _).mono ?_; rintro e1 w1 ⟨rfl, rfl⟩
      go_wp2_with fail
      refine (HS.out _).mono ?_; rintro e1 w1 ⟨rfl, rfl⟩
      go_wp2_with fail
      go_roundw
      case rel => exact ⟨i + 1, d, hg + c, vs.set i v, by go_num, by go_num, by go_num, by omega, bd, bov, HE2, NW.out⟩
      case measure => simp [intOf]; omega
    · obtain rfl : i = n := by omega
      obtain ⟨v, hv⟩ : ∃ t, t = (y + 18446744073709551616 - ov - bo) % 18446744073709551616 := ⟨_, rfl⟩
      obtain ⟨d, hd⟩ : ∃ t, t = if y < ov + bo then 1 else 0 := ⟨_, rfl⟩
      have bv : v < 18446744073709551616 := by omega
      have bd : d ≤ 1 := by rw [hd]; split <;> omega
      have q3 : v + ov + bo = y + d * 18446744073709551616 := by rw [hd]; split <;> omega
      have HS := Lib.hid (fun w => subW y ov bo v d w0 hov hbo hv hd w)
      have NX := E.next hi o LO.out v bv
      have hl2 : (vs.set i v).length = i + 1 := by simp [E.len]
      have HE2 : V (vs.set i v) + V ds * q = V ws + d * 18446744073709551616 ^ (i + 1) := by
        have t1 : (vs.set i v).take (i + 1) = vs.set i v := List.take_of_length_le (by omega)
        have t2 : ds.take i = ds := List.take_of_length_le (by rw [LN.out]; exact Nat.le_refl _)
        have t3 : ws.take (i + 1) = ws := List.take_of_length_le (by rw [LW.out]; exact Nat.le_refl _)
        have a1 := NX.2
        have a2 := HE.out
        rw [t1] at a1
        rw [t2] at a2
        rw [t3] at VT
        rw [a1, VT, Nat.pow_succ]
        exact take_end _ _ _ _ _ _ _ _ _ _ _ a2 q3
      have HF := Lib.hid (show ∃ (bo : Nat) (ws' : List Nat), Ending.returned (.int .u64 (d : Int)) = .returned (.int .u64 (bo : Int)) ∧ bo ≤ 1 ∧ ws'.length = i + 1 ∧ V ws' + V ds * q = V ws + bo * 18446744073709551616 ^ (i + 1) ∧ Own 66 B (wr.setCell ⟨g, o + i, none⟩ (.int .u64 (v : Int))) (some ⟨g, 0, none⟩) cap (pre ++ ws' ++ post) ∧ w.grownBy (wr.setCell ⟨g, o + i, none⟩ (.int .u64 (v : Int))) (some g) from
        ⟨d, vs.set i v, rfl, bd, hl2, HE2, NX.1.own, NX.1.gr⟩)
      clear NX VT hv hd q3 HE E bel HE2 hl2 E0
      go_wp2_with fail
      refine (HS.out _).mono ?_; rintro e1 w1 ⟨rfl, rfl⟩
      go_wp2_with fail
      go_ret
      exact HF.out

set_option maxHeartbeats 4000000 in
theorem back (B g cap H : Nat) (pre ws post : List Nat) (b : Option Addr) (cb o n cp : Nat) (ds : List Nat) (w : World)
    (ho : Own 66 B w (some ⟨g, 0, none⟩) cap (pre ++ ws ++ post)) (hb : Sl H w b cb ds) (hH : H ≤ g) (hHw : H ≤ w.heap.size) (lo : pre.length = o) (ln : ds.length = n) (lw : ws.length = n + 1) (hn : n ≤ 100000) (hcp : n + 1 ≤ cp) :
    Calls Tryz.prog 77 #[.slice (some ⟨g, o, none⟩) (n + 1) cp, .slice b n cb] w fun e w' =>
      ∃ (c : Nat) (ws' : List Nat), e = .returned (.int .u64 (c : Int)) ∧ c ≤ 1 ∧ ws'.length = n + 1 ∧ V ws' + c * 18446744073709551616 ^ (n + 1) = V ws + V ds ∧ Own 66 B w' (some ⟨g, 0, none⟩) cap (pre ++ ws' ++ post) ∧ w.grownBy w' (some g) := by
  have wws : ∀ j (h : j < ws.length), ws[j] < 18446744073709551616 := fun j h => ho.dig _ (by simp)
  have WW := Lib.hid wws
  have WD := Lib.hid hb.dig
  have LN := Lib.hid ln
  have LW := Lib.hid lw
  have LO := Lib.hid lo
  have hsl := hb.at'
  have ho1 := ho.ge
  have hom : o + n + 1 ≤ 9223372036854775807 := by
    have h1 := ho.cap
    have h2 := ho.sl.max
    unfold maxLen at h2
    simp at h1; omega
  have E0 : Win B g cap pre ws post n 0 w w ws := ⟨lw, fun _ _ => rfl, ho, grefl _ _⟩
  clear ho hb ln lw lo wws
  go_enter Tryz.func77, Tryz.ntmps77
  go_wp2
  go_loopw [4, 9] (fun s4 s9 wr => ∃ (i c : Nat) (vs : List Nat), s4 = .int .u64 c ∧ s9 = .int .i64 i ∧ i ≤ n ∧ c ≤ 1 ∧ Hid (V (vs.take i) + c * 18446744073709551616 ^ i = V (ws.take i) + V (ds.take i)) ∧ Win B g cap pre ws post n i w wr vs) (fun _ s _ => n - (intOf s).toNat)
  case atStart => exact ⟨0, 0, ws, rfl, rfl, by omega, by omega, by simp [Hid, V, val], E0⟩
  case round =>
    obtain ⟨i, c, vs, rfl, rfl, hi, hc, HE, E⟩ := hrel
    have bel := gbelow E.gr hH hHw
    have co := E.cell hi LW.out o LO.out
    have cf := E.own.free (o + i)
    have iw : i < ws.length := by rw [LW.out]; omega
    have w0 := WW.out i iw
    have e0 : ws[i]?.getD 0 = ws[i] := by simp [iw]
    rw [e0] at co
    have VT := V_take ws i iw
    obtain ⟨y, hy⟩ : ∃ y, y = ws[i] := ⟨_, rfl⟩
    rw [← hy] at co w0 VT
    clear hy e0 iw
    by_cases hlt : i < n
    · have hid : i < ds.length := by rw [LN.out]; exact hlt
      rcases hsl with h0 | ⟨b1, o1, rfl, hb1, hc1⟩
      · rw [h0] at hid; simp at hid
      have c1 : wr.cell? ⟨b1, o1 + i, none⟩ = some (.int .u64 (ds[i] : Nat)) := by rw [bel.cell (p := ⟨b1, o1 + i, none⟩) hb1]; exact hc1 i hid
      have wx := WD.out.get i hid
      have VD := V_take ds i hid
      obtain ⟨x, hx⟩ : ∃ x, x = ds[i] := ⟨_, rfl⟩
      rw [← hx] at c1 wx VD
      clear hx hc1 hid
      obtain ⟨v, hv⟩ : ∃ t, t = (y + x + c) % 18446744073709551616 := ⟨_, rfl⟩
      obtain ⟨d, hd⟩ : ∃ t, t = (y + x + c) / 18446744073709551616 := ⟨_, rfl⟩
      have bv : v < 18446744073709551616 := by omega
      have bd : d ≤ 1 := by omega
      have q3 : y + x + c = v + d * 18446744073709551616 := by omega
      have HA := Lib.hid (fun w => addW y x c v d hc hv hd w)
      have NX := E.next hi o LO.out v bv
      have HE2 : Hid (V ((vs.set i v).take (i + 1)) + d * 18446744073709551616 ^ (i + 1) = V (ws.take (i + 1)) + V (ds.take (i + 1))) := by
        rw [Hid, NX.2, VD, VT, Nat.pow_succ]
        exact back_step _ _ _ _ _ _ _ _ _ _ HE.out q3
      have NW := Lib.hid NX.1
      clear NX VD VT hv hd q3 HE E bel
      go_wp2_with fail
      refine (HA.out _).mono ?_; rintro e1 w1 ⟨rfl, rfl⟩
      go_wp2_with fail
      go_roundw
      case rel => exact ⟨i + 1, d, vs.set i v, by go_num, by go_num, by omega, bd, HE2, NW.out⟩
      case measure => simp [intOf]; omega
    · obtain rfl : i = n := by omega
      obtain ⟨v, hv⟩ : ∃ t, t = (y + 0 + c) % 18446744073709551616 := ⟨_, rfl⟩
      obtain ⟨d, hd⟩ : ∃ t, t = (y + 0 + c) / 18446744073709551616 := ⟨_, rfl⟩
      have bv : v < 18446744073709551616 := by omega
      have bd : d ≤ 1 := by omega
      have q3 : y + 0 + c = v + d * 18446744073709551616 := by omega
      have HA := Lib.hid (fun w => addW y 0 c v d hc hv hd w)
      have NX := E.next hi o LO.out v bv
      have hl2 : (vs.set i v).length = i + 1 := by simp [E.len]
      have HE2 : V (vs.set i v) + d * 18446744073709551616 ^ (i + 1) = V ws + V ds := by
        have t1 : (vs.set i v).take (i + 1) = vs.set i v := List.take_of_length_le (by omega)
        have t2 : ds.take i = ds := List.take_of_length_le (by rw [LN.out]; exact Nat.le_refl _)
        have t3 : ws.take (i + 1) = ws := List.take_of_length_le (by rw [LW.out]; exact Nat.le_refl _)
        have a1 := NX.2
        have a2 := HE.out
        rw [t1] at a1
        rw [t2] at a2
        rw [t3] at VT
        rw [a1, VT, Nat.pow_succ]
        have := back_step _ _ _ _ _ _ _ _ _ _ a2 q3
        simpa using this
      have HF := Lib.hid (show ∃ (c : Nat) (ws' : List Nat), Ending.returned (.int .u64 (d : Int)) = .returned (.int .u64 (c : Int)) ∧ c ≤ 1 ∧ ws'.length = i + 1 ∧ V ws' + c * 18446744073709551616 ^ (i + 1) = V ws + V ds ∧ Own 66 B (wr.setCell ⟨g, o + i, none⟩ (.int .u64 (v : Int))) (some ⟨g, 0, none⟩) cap (pre ++ ws' ++ post) ∧ w.grownBy (wr.setCell ⟨g, o + i, none⟩ (.int .u64 (v : Int))) (some g) from
        ⟨d, vs.set i v, rfl, bd, hl2, HE2, NX.1.own, NX.1.gr⟩)
      clear NX VT hv hd q3 HE E bel HE2 hl2 E0
      go_wp2_with fail
      refine (HA.out _).mono ?_; rintro e1 w1 ⟨rfl, rfl⟩
      go_wp2_with fail
      go_ret
      exact HF.out
end Go.Proofs.QT
/- Plain facts of long division: what one round finds. -/
namespace Go.Proofs.QT
open Go.RowKit
open Go.Proofs
open Go.Proofs.NP
open Go.Proofs.SL
open Go.Proofs.QP
set_option linter.unusedVariables false
set_option linter.unusedSimpArgs false

theorem Ws_take {xs : List Nat} (h : Ws xs) (k : Nat) : V (xs.take k) < 18446744073709551616 ^ k := by
  refine Nat.lt_of_lt_of_le (V_lt (fun x hx => h x (List.mem_of_mem_take hx))) (Nat.pow_le_pow_right (by decide) (by simp; omega))

/-- the guess is not below the quotient -/
theorem qhat (ws ds : List Nat) (k : Nat) (hws : Ws ws) (hds : Ws ds) (lw : ws.length = k + 2) (ld : ds.length = k + 1) (t hi lo : Nat) (ht : t = ds[k]'(by omega)) (hh : hi = ws[k + 1]'(by omega)) (hl : lo = ws[k]'(by omega)) (h0 : 0 < t)
    (hP : V ws < V ds * 18446744073709551616) : V ws / V ds ≤ gs hi lo t := by
  subst ht hh hl
  unfold gs
  have e1 := V_take ws (k + 1) (by omega)
  have e2 := V_take ws k (by omega)
  have e3 := V_take ds k (by omega)
  rw [show ws.take (k + 1 + 1) = ws from List.take_of_length_le (by omega)] at e1
  rw [show ds.take (k + 1) = ds from List.take_of_length_le (by omega)] at e3
  have b1 := Ws_take hws k
  have hd : ds[k] * 18446744073709551616 ^ k ≤ V ds := by omega
  have hD : 0 < V ds := by
    have : 0 < ds[k] * 18446744073709551616 ^ k := Nat.mul_pos h0 (Nat.pow_pos (by decide))
    omega
  split
  · have : V ws / V ds < 18446744073709551616 := by rw [Nat.div_lt_iff_lt_mul hD, Nat.mul_comm]; exact hP
    omega
  · refine guess_ge _ _ _ _ _ (18446744073709551616 ^ k) h0 ?_ hd
    rw [e1, e2, Nat.add_mul, Nat.add_mul, Nat.one_mul, Nat.pow_succ, Nat.mul_assoc, Nat.mul_comm (18446744073709551616 ^ k)]
    omega

/-- taken just right -/
theorem took0 (W D q P : Nat) (hD : 0 < D) (h : W + D * q = P) (hq : P / D ≤ q) : q = P / D ∧ W = P % D := by
  have h1 : D * q ≤ P := by omega
  have h2 : q ≤ P / D := by rw [Nat.le_div_iff_mul_le hD, Nat.mul_comm]; exact h1
  have h3 : q = P / D := by omega
  refine ⟨h3, ?_⟩
  have := Nat.div_add_mod P D
  rw [← h3] at this; omega
/-- given back just so often -/
theorem back1 (W D q P : Nat) (hD : 0 < D) (h : W + D * q = P) (hlt : P < D * (q + 1)) : q = P / D ∧ W = P % D := by
  refine took0 W D q P hD h ?_
  have : P / D < q + 1 := by rw [Nat.div_lt_iff_lt_mul hD, Nat.mul_comm]; exact hlt
  omega

/-- the limbs that a shifted natural, 0s behind it, has -/
def pad (n m : Nat) : List Nat := L n ++ List.replicate (m - (L n).length) 0
theorem pad_len {n m : Nat} (h : (L n).length ≤ m) : (pad n m).length = m := by simp [pad]; omega
theorem val_zs (n : Nat) : V (List.replicate n 0) = 0 := by
  unfold V; exact val_zeros _ n
theorem pad_V (n m : Nat) : V (pad n m) = n := by
  unfold pad V
  rw [val_append]
  have : val 18446744073709551616 (List.replicate (m - (L n).length) 0) = 0 := val_zs _
  rw [this]; simp; exact V_L n
theorem pad_ws (n m : Nat) : Ws (pad n m) := (Ws_L n).append (Dig.zeros (by decide) _)
theorem V_drop_div {xs : List Nat} (h : Ws xs) (k : Nat) : V (xs.drop k) = V xs / 18446744073709551616 ^ k := by
  by_cases hk : k ≤ xs.length
  · have e := val_append 18446744073709551616 (xs.take k) (xs.drop k)
    rw [List.take_append_drop] at e
    have hl : (xs.take k).length = k := by simp; omega
    rw [hl] at e
    have hlt : val 18446744073709551616 (xs.take k) < 18446744073709551616 ^ k := Ws_take h k
    show val _ (xs.drop k) = val _ xs / _
    rw [e, Nat.add_mul_div_left _ _ (Nat.pow_pos (by decide)), Nat.div_eq_of_lt hlt]; omega
  · rw [List.drop_eq_nil_of_le (by omega), Nat.div_eq_of_lt]
    · rfl
    · exact Nat.lt_of_lt_of_le (V_lt h) (Nat.pow_le_pow_right (by decide) (by omega))

/-- so that the highest place of b is 1, it has as many limbs -/
theorem norm_len (y n t z : Nat) (hl : (L y).length = n + 1) (ht : t = (L y)[n]'(by omega)) (hz : z = 64 - bitLen t) : (L (y * 2 ^ z)).length = n + 1 := by
  have hb := (bitLen_le_iff t (bitLen t)).1 (Nat.le_refl _)
  have wt : t < 18446744073709551616 := by rw [ht]; exact Ws_L y _ (List.getElem_mem _)
  have hb64 : bitLen t ≤ 64 := (bitLen_le_iff t 64).2 (by simpa using wt)
  have e := V_take (L y) n (by omega)
  rw [show (L y).take (n + 1) = L y from List.take_of_length_le (by omega), V_L, ← ht] at e
  have h1 := Ws_take (Ws_L y) n
  have up : y < 2 ^ bitLen t * 18446744073709551616 ^ n := by
    have : (t + 1) * 18446744073709551616 ^ n ≤ 2 ^ bitLen t * 18446744073709551616 ^ n := Nat.mul_le_mul_right _ hb
    rw [Nat.add_mul, Nat.one_mul] at this; omega
  have hu : y * 2 ^ z < 18446744073709551616 ^ (n + 1) := by
    have h2 : y * 2 ^ z < 2 ^ bitLen t * 18446744073709551616 ^ n * 2 ^ z := Nat.mul_lt_mul_of_pos_right up (Nat.two_pow_pos z)
    have h3 : 2 ^ bitLen t * 18446744073709551616 ^ n * 2 ^ z = 18446744073709551616 ^ (n + 1) := by
      rw [Nat.mul_right_comm, ← Nat.pow_add, show bitLen t + z = 64 by omega, show (2 : Nat) ^ 64 = 18446744073709551616 by decide, Nat.pow_succ 18446744073709551616 n, Nat.mul_comm]
    omega
  have lo : (L (y * 2 ^ z)).length ≤ n + 1 := L_len _ _ hu
  have hi : n < (L (y * 2 ^ z)).length := by
    refine digs_length_lt _ (by decide) n _ ?_
    have hy : 18446744073709551616 ^ n ≤ y := by
      rcases Nat.lt_or_ge y (18446744073709551616 ^ n) with h | h
      · have := L_len _ _ h; omega
      · exact h
    exact Nat.le_trans hy (Nat.le_mul_of_pos_right _ (Nat.two_pow_pos z))
  omega
theorem top_key (ds : List Nat) (n : Nat) (hl : ds.length = n + 1) (h : ∀ h : ds ≠ [], ds.getLast h ≠ 0) : 0 < ds[n]'(by omega) := by
  have hne : ds ≠ [] := by intro h; rw [h] at hl; simp at hl
  have := h hne
  rw [List.getLast_eq_getElem] at this
  simp only [hl, Nat.add_sub_cancel] at this
  exact Nat.pos_of_ne_zero this
theorem top_pos (y n : Nat) (hl : (L y).length = n + 1) : 0 < (L y)[n]'(by omega) := top_key (L y) n hl (digs_last 18446744073709551616 (by decide) y)
theorem L_ge (y n : Nat) (hl : (L y).length = n + 1) : 18446744073709551616 ^ n ≤ y := by
  rcases Nat.lt_or_ge y (18446744073709551616 ^ n) with h | h
  · have := L_len _ _ h; omega
  · exact h
/-- what stands above the first window is less than the divisor -/
theorem first_lt (x y m n z : Nat) (hx : (L x).length = m) (hy : (L y).length = n + 1) (hm : n + 1 ≤ m) : x * 2 ^ z / 18446744073709551616 ^ (m - n) < y * 2 ^ z := by
  have h1 : x < 18446744073709551616 ^ m := by have := V_lt (Ws_L x); rw [V_L, hx] at this; exact this
  have h2 := L_ge y n hy
  rw [Nat.div_lt_iff_lt_mul (Nat.pow_pos (by decide)), Nat.mul_right_comm]
  refine Nat.mul_lt_mul_of_pos_right ?_ (Nat.two_pow_pos z)
  have h3 : 18446744073709551616 ^ m = 18446744073709551616 ^ n * 18446744073709551616 ^ (m - n) := by rw [← Nat.pow_add]; congr 1; omega
  have := Nat.mul_le_mul_right (18446744073709551616 ^ (m - n)) h2
  omega
theorem shl_len (x m z : Nat) (hx : (L x).length = m) (hz : z ≤ 64) : (L (x * 2 ^ z)).length ≤ m + 1 := by
  refine L_len _ _ ?_
  have h1 : x < 18446744073709551616 ^ m := by have := V_lt (Ws_L x); rw [V_L, hx] at this; exact this
  rw [Nat.pow_succ]
  refine Nat.lt_of_lt_of_le (Nat.mul_lt_mul_of_pos_right h1 (Nat.two_pow_pos z)) (Nat.mul_le_mul_left _ ?_)
  exact Nat.le_trans (Nat.pow_le_pow_right (by decide) hz) (by decide)
end Go.Proofs.QT
/- The contract of quo.Div: long division. -/
namespace Go.Proofs.QT
open Go.RowKit
open Go.Proofs
open Go.Proofs.NP
open Go.Proofs.SL
open Go.Proofs.QP
set_option linter.unusedVariables false
set_option maxRecDepth 20000
set_option linter.unusedSimpArgs false
variable {w : World} {a b : Option Addr} {ca cb l k : Nat} {xs ys zs : List Nat}

/-- a quotient and what is left, each in a block of its own -/
def GivesQ (w : World) (qs rs : List Nat) (c : Int) (en : Ending) (w' : World) : Prop :=
  ∃ p cp r cr, en = .returned (.tuple #[.slice p qs.length cp, .slice r rs.length cr, .int .i64 c]) ∧ Own 66 w.heap.size w' p cp qs ∧ Own 66 w.heap.size w' r cr rs ∧ (∀ g, r = some ⟨g, 0, none⟩ → some g ≠ blk p) ∧ Below w.heap.size w w'
theorem ownNil (B : Nat) (w : World) : Own 66 B w none 0 [] := ⟨Dig.nil _, World.ownsRow_nil w _ _ _⟩

theorem lenW (x : Nat) (z : Nat) (hx : x < 18446744073709551616) (hz : z = bitLen x) (w : World) :
    Calls Tryz.prog 66 #[.int .u64 (x : Int)] w fun e w' => e = .returned (.int .i64 (z : Int)) ∧ w = w' := by
  subst hz
  have := W.len (x : Int) (by omega) (by omega) w
  simpa using this
theorem shlI (hx : Rd w a ca xs) (lx : xs.length = l) (h : l ≤ 100000) (z : Int) (i : Nat) (hzi : z = i) (hi : i ≤ 65536) (hz : zs = L (V xs * 2 ^ i)) : Calls Tryz.prog 43 #[.slice a l ca, .int .i64 z] w (NR.GivesE 66 w zs) := by
  subst hzi; exact NR.shl_ok hx lx h i hi hz
theorem shrI (hx : Rd w a ca xs) (lx : xs.length = l) (h : l ≤ 100000) (z : Int) (i : Nat) (hzi : z = i) (hi : i ≤ 65536) (hz : zs = L (V xs / 2 ^ i)) : Calls Tryz.prog 78 #[.slice a l ca, .int .i64 z] w (NR.GivesE 66 w zs) := by
  subst hzi; exact NR.shr_ok hx lx h i hi hz

set_option maxHeartbeats 4000000 in
theorem div_zero (hx : Rd w a ca xs) (hy : Rd w b cb ys) (lx : xs.length = l) (ly : ys.length = k) (h : l ≤ 10000) (h' : k ≤ 10000) (h0 : V ys = 0) :
    Calls Tryz.prog 52 #[.slice a l ca, .slice b k cb] w (GivesQ w [] [] 7) := by
  have HA := Lib.hid (NR.trim (zs := L (V xs)) hx lx (by omega) rfl)
  have HB := Lib.hid (fun (w1 : World) (hy : Rd w1 b cb ys) => NR.trim (zs := []) hy ly (by omega) (by rw [h0]; rfl))
  have HY := Lib.hid hy
  obtain ⟨es, hes⟩ : ∃ es, es = L (V xs) := ⟨_, rfl⟩
  rw [← hes] at HA
  clear hx hy lx ly h0 hes
  go_enter Tryz.func52, Tryz.ntmps52
  go_wp2_with fail
  refine HA.out.mono ?_
  rintro e w1 ⟨p1, c1, rfl, ho1, hb1⟩
  have HY1 := HY.out.nx hb1
  have HK := Lib.hid hb1
  clear HA ho1 hb1 HY
  go_wp2_with fail
  refine (HB.out w1 HY1).mono ?_
  rintro e w2 ⟨p2, c2, rfl, ho2, hb2⟩
  have hf := Lib.hid (show GivesQ w [] [] 7 (.returned (.tuple #[.slice none 0 0, .slice none 0 0, .int .i64 7])) w2 from ⟨none, 0, none, 0, rfl, ownNil _ _, ownNil _ _, by simp, Kp.nx HK.out hb2⟩)
  clear HB HY1 ho2 hb2
  simp only [List.length_nil]
  go_wp2_with fail
  go_ret3
  exact hf.out

set_option maxHeartbeats 4000000 in
theorem div_less (hx : Rd w a ca xs) (hy : Rd w b cb ys) (lx : xs.length = l) (ly : ys.length = k) (h : l ≤ 10000) (h' : k ≤ 10000) (h0 : V xs < V ys) (hz : zs = L (V xs)) :
    Calls Tryz.prog 52 #[.slice a l ca, .slice b k cb] w (GivesQ w [] zs 0) := by
  obtain ⟨bs, hbs⟩ : ∃ bs, bs = L (V ys) := ⟨_, rfl⟩
  have HA := Lib.hid (NR.trim hx lx (by omega) hz)
  have HB := Lib.hid (fun (w1 : World) (hy : Rd w1 b cb ys) => NR.trim hy ly (by omega) hbs)
  have HY := Lib.hid hy
  have lz : zs.length ≤ 10000 := by have := L_V_len hx.ws; rw [hz]; omega
  have lb : bs.length ≤ 10000 := by have := L_V_len hy.ws; rw [hbs]; omega
  have lb0 : ¬ (bs.length : Int) = 0 := by
    intro h1
    have : bs = [] := List.eq_nil_of_length_eq_zero (by omega)
    rw [hbs, L_nil] at this; omega
  have lb1 : 0 < bs.length := by omega
  have HC := Lib.hid (fun (w1 : World) p1 c1 p2 c2 (h1 : Rd w1 p1 c1 zs) (h2 : Rd w1 p2 c2 bs) => NR.cmp h1 h2 rfl rfl (by omega) (by omega) (-1) (by rw [hz, hbs, V_L, V_L, NT.cmpI, if_pos h0]))
  clear hx hy lx ly h0 hbs hz lb0
  go_enter Tryz.func52, Tryz.ntmps52
  go_wp2_with fail
  refine HA.out.mono ?_
  rintro e w1 ⟨p1, c1, rfl, ho1, hb1⟩
  have HY1 := HY.out.nx hb1
  have HK := Lib.hid hb1
  clear HA hb1 HY
  go_wp2_with fail
  refine (HB.out w1 HY1).mono ?_
  rintro e w2 ⟨p2, c2, rfl, ho2, hb2⟩
  have HC1 := Lib.hid (HC.out w2 p1 c1 p2 c2 (ho1.rd.nx hb2) ho2.rd)
  have hf := Lib.hid (show GivesQ w [] zs 0 (.returned (.tuple #[.slice none 0 0, .slice p1 zs.length c1, .int .i64 0])) w2 from ⟨none, 0, p1, c1, rfl, ownNil _ _, ho1.nx hb2, by simp [blk], Kp.nx HK.out hb2⟩)
  clear HB HY1 ho1 ho2 hb2 HC
  go_wp2_with fail
  refine HC1.out.mono ?_; rintro e w' ⟨rfl, rfl⟩
  go_wp2_with fail
  go_ret3
  exact hf.out

set_option maxHeartbeats 4000000 in
theorem div_short (hx : Rd w a ca xs) (hy : Rd w b cb ys) (lx : xs.length = l) (ly : ys.length = k) (h : l ≤ 10000) (h' : k ≤ 10000) (d : Nat) (hd : L (V ys) = [d]) (h0 : V ys ≤ V xs) (qs rs : List Nat) (hq : qs = L (V xs / V ys)) (hr : rs = L (V xs % V ys)) :
    Calls Tryz.prog 52 #[.slice a l ca, .slice b k cb] w (GivesQ w qs rs 0) := by
  obtain ⟨es, hes⟩ : ∃ es, es = L (V xs) := ⟨_, rfl⟩
  have HA := Lib.hid (NR.trim hx lx (by omega) hes)
  have HB := Lib.hid (fun (w1 : World) (hy : Rd w1 b cb ys) => NR.trim (zs := [d]) hy ly (by omega) hd.symm)
  have HY := Lib.hid hy
  have la : es.length ≤ 10000 := by have := L_V_len hx.ws; rw [hes]; omega
  have wd : d < 18446744073709551616 := by have := Ws_L (V ys); rw [hd] at this; exact this d (by simp)
  have ed : V ys = d := by have := V_L (V ys); rw [hd] at this; simpa [V, val] using this.symm
  have hd0 : 0 < d := by
    have := top_key (L (V ys)) 0 (by rw [hd]; rfl) (digs_last 18446744073709551616 (by decide) (V ys))
    simpa [hd] using this
  obtain ⟨z, hzc, hz0'⟩ : ∃ z : Int, z = NT.cmpI (V xs) (V ys) ∧ 0 ≤ z := ⟨_, rfl, by unfold NT.cmpI; rw [if_neg (by omega)]; split <;> omega⟩
  obtain ⟨r, hrr⟩ : ∃ r, r = V xs % d := ⟨_, rfl⟩
  have hrd : r < 18446744073709551616 := by rw [hrr]; exact Nat.lt_trans (Nat.mod_lt _ hd0) wd
  have HC := Lib.hid (fun (w1 : World) p1 c1 p2 c2 (h1 : Rd w1 p1 c1 es) (h2 : Rd w1 p2 c2 [d]) => NR.cmp (k := 1) h1 h2 rfl rfl (by omega) (by omega) z (by rw [hzc, hes, ← hd, V_L, V_L]))
  have HS := Lib.hid (fun (w1 : World) p1 c1 (h1 : Rd w1 p1 c1 es) => short h1 rfl (by omega) d r hd0 wd (zs := qs) (by rw [hq, hes, V_L, ed]) (by rw [hrr, hes, V_L]))
  have HO := Lib.hid (fun (w1 : World) => (NR.of r w1 hrd).mono (R' := Gives 66 w1 rs) (fun e w' h => by rw [hr, ed, ← hrr]; exact h))
  clear hx hy lx ly h0 hes hq hr hzc hrr ed hd
  go_enter Tryz.func52, Tryz.ntmps52
  go_wp2_with fail
  refine HA.out.mono ?_
  rintro e w1 ⟨p1, c1, rfl, ho1, hb1⟩
  have HY1 := HY.out.nx hb1
  have HK := Lib.hid hb1
  clear HA hb1 HY
  go_wp2_with fail
  refine (HB.out w1 HY1).mono ?_
  rintro e w2 ⟨p2, c2, rfl, ho2, hb2⟩
  have ha2 := ho1.rd.nx hb2
  obtain ⟨g2, rfl, _, _⟩ := ho2.some_of (by simp)
  have HC1 := Lib.hid (HC.out w2 p1 c1 (some ⟨g2, 0, none⟩) c2 ha2 ho2.rd)
  have HS1 := Lib.hid (HS.out w2 p1 c1 ha2)
  have hcell := ho2.cell 0 (by simp)
  simp only [List.getElem?_cons_zero, Option.getD_some] at hcell
  have HK2 := Lib.hid (Kp.nx HK.out hb2)
  clear HB HY1 HK ho1 ho2 hb2 HC HS ha2
  simp only [List.length_cons, List.length_nil, Nat.zero_add]
  go_wp2_with fail
  refine HC1.out.mono ?_; rintro e w' ⟨rfl, rfl⟩
  go_wp2_with fail
  refine HS1.out.mono ?_; rintro e w3 ⟨p3, c3, rfl, ho3, hb3⟩
  have HF := Lib.hid (And.intro ho3 hb3)
  clear ho3 hb3 HC1 HS1
  go_wp2_with fail
  refine (HO.out w3).mono ?_; rintro e w4 ⟨p4, c4, rfl, ho4, hb4⟩
  have hf := Lib.hid (show GivesQ w qs rs 0 (.returned (.tuple #[.slice p3 qs.length c3, .slice p4 rs.length c4, .int .i64 0])) w4 from
    ⟨p3, c3, p4, c4, rfl, (HF.out.1.nx hb4).mono HK2.out.size, ho4.mono (Nat.le_trans HK2.out.size HF.out.2.size), by
      intro g hg
      rcases HF.out.1.cases with ⟨rfl, _⟩ | ⟨j, rfl, _, h1, _⟩
      · simp [blk]
      · rcases ho4.cases with ⟨rfl, _⟩ | ⟨j2, rfl, h2, _⟩
        · simp at hg
        · simp at hg; simp [blk]; omega, Kp.nx HK2.out (Kp.nx HF.out.2 hb4)⟩)
  clear ho4 hb4 HO
  go_wp2_with fail
  go_ret3
  exact hf.out
end Go.Proofs.QT
/- The contract of quo.Div where the divisor has more than one limb. -/
namespace Go.Proofs.QT
open Go.RowKit
open Go.Proofs
open Go.Proofs.NP
open Go.Proofs.SL
open Go.Proofs.QP
set_option linter.unusedVariables false
set_option maxRecDepth 20000
set_option linter.unusedSimpArgs false
variable {w : World} {a b : Option Addr} {ca cb l k : Nat} {xs ys zs : List Nat}

/-- between two limbs of the quotient: k limbs of it are not yet known -/
structure DvAt (B : Nat) (gl cl gq : Nat) (N D : Nat) (orig : List Nat) (Q k : Nat) (wb wr : World) (vs qs : List Nat) : Prop where
  lv : vs.length + k = orig.length
  lq : qs.length = Q
  vlt : V vs < D
  eq : V (qs.drop k) * D + V vs = V (orig.drop k)
  ownl : Own 66 B wr (some ⟨gl, 0, none⟩) cl (orig.take k ++ vs)
  ownq : Own 66 B wr (some ⟨gq, 0, none⟩) Q qs
  bel : Below B wb wr

theorem DvAt.opened {B gl cl gq N D Q i : Nat} {orig vs qs : List Nat} {wb wr : World} (E : DvAt B gl cl gq N D orig Q (i + 1) wb wr vs qs) (hD : D ≤ 18446744073709551616 ^ N) (hi : i + N + 1 ≤ orig.length) (x : Nat) (hx : x = orig[i]'(by omega)) (hxw : x < 18446744073709551616) :
    ∃ ws post, ws.length = N + 1 ∧ post.length + (N + 1) + i = orig.length ∧ V post = 0 ∧ V ws = x + 18446744073709551616 * V vs ∧ V ws < D * 18446744073709551616 ∧ Own 66 B wr (some ⟨gl, 0, none⟩) cl (orig.take i ++ ws ++ post) := by
  have hlv := E.lv
  have hvl := E.vlt
  have hP : V (x :: vs) < D * 18446744073709551616 := by
    show x + 18446744073709551616 * V vs < _
    have : 18446744073709551616 * (V vs + 1) ≤ 18446744073709551616 * D := Nat.mul_le_mul_left _ hvl
    rw [Nat.mul_comm D]; omega
  have hws : Ws (x :: vs) := by
    intro y hy
    rcases List.mem_cons.1 hy with h | h
    · rw [h]; exact hxw
    · exact E.ownl.dig y (List.mem_append_right _ h)
  have hz : V ((x :: vs).drop (N + 1)) = 0 := by
    rw [V_drop_div hws, Nat.div_eq_of_lt]
    refine Nat.lt_of_lt_of_le hP ?_
    rw [Nat.pow_succ]; exact Nat.mul_le_mul_right _ hD
  have hv : V ((x :: vs).take (N + 1)) = x + 18446744073709551616 * V vs := by
    have e := val_append 18446744073709551616 ((x :: vs).take (N + 1)) ((x :: vs).drop (N + 1))
    rw [List.take_append_drop] at e
    have z2 : val 18446744073709551616 ((x :: vs).drop (N + 1)) = 0 := hz
    rw [z2, Nat.mul_zero, Nat.add_zero] at e
    exact e.symm
  refine ⟨(x :: vs).take (N + 1), (x :: vs).drop (N + 1), by simp; omega, by simp; omega, hz, hv, by rw [hv]; exact hP, ?_⟩
  have e : orig.take i ++ (x :: vs).take (N + 1) ++ (x :: vs).drop (N + 1) = orig.take (i + 1) ++ vs := by
    rw [List.append_assoc, List.take_append_drop, List.take_succ_eq_append_getElem (by omega), ← hx, List.append_assoc]; rfl
  rw [e]; exact E.ownl
theorem DvAt.closed {B gl cl gq N D Q i : Nat} {orig vs qs ws post : List Nat} {wb wr wn : World} (E : DvAt B gl cl gq N D orig Q (i + 1) wb wr vs qs) (hD : 0 < D) (hi : i + N + 1 ≤ orig.length) (hiq : i < Q) (x : Nat) (hx : x = orig[i]'(by omega)) (P q : Nat) (hP : P = x + 18446744073709551616 * V vs)
    (lw : ws.length = N + 1) (lp : post.length + (N + 1) + i = orig.length) (zp : V post = 0) (hq : q = P / D) (hw : V ws = P % D)
    (ol : Own 66 B wn (some ⟨gl, 0, none⟩) cl (orig.take i ++ ws ++ post)) (oq : Own 66 B wn (some ⟨gq, 0, none⟩) Q (qs.set i q)) (bl : Below B wb wn) :
    DvAt B gl cl gq N D orig Q i wb wn (ws ++ post) (qs.set i q) := by
  have hv : V (ws ++ post) = P % D := by
    have e := val_append 18446744073709551616 ws post
    have z2 : val 18446744073709551616 post = 0 := zp
    rw [z2, Nat.mul_zero, Nat.add_zero] at e
    rw [← hw]; exact e
  refine ⟨by simp; omega, by simp [E.lq], by rw [hv]; exact Nat.mod_lt _ hD, ?_, by rw [← List.append_assoc]; exact ol, oq, bl⟩
  rw [hv, V_drop_set _ _ _ (by rw [E.lq]; exact hiq), V_drop orig i (by omega), ← hx, ← E.eq, hq]
  have e := Nat.div_add_mod P D
  rw [Nat.add_mul, Nat.mul_comm (P / D), Nat.mul_add, Nat.mul_assoc]
  generalize 18446744073709551616 * (V (qs.drop (i + 1)) * D) = r at *
  omega

set_option maxRecDepth 20000 in
set_option maxHeartbeats 4000000 in
theorem div_long (hx : Rd w a ca xs) (hy : Rd w b cb ys) (lx : xs.length = l) (ly : ys.length = k) (h : l ≤ 10000) (h' : k ≤ 10000) (n : Nat) (hn : (L (V ys)).length = n + 2) (h0 : V ys ≤ V xs) (qs rs : List Nat) (hq : qs = L (V xs / V ys)) (hr : rs = L (V xs % V ys)) :
    Calls Tryz.prog 52 #[.slice a l ca, .slice b k cb] w (GivesQ w qs rs 0) := by
  obtain ⟨i0, hi, hz0, hz1, hz2⟩ := info_parts NT.Tryz.info66
  obtain ⟨es, hes⟩ : ∃ es, es = L (V xs) := ⟨_, rfl⟩
  obtain ⟨bs, hbs⟩ : ∃ bs, bs = L (V ys) := ⟨_, rfl⟩
  have HA := Lib.hid (NR.trim hx lx (by omega) hes)
  have HB := Lib.hid (fun (w1 : World) (hy : Rd w1 b cb ys) => NR.trim hy ly (by omega) hbs)
  have HY := Lib.hid hy
  have lb2 : bs.length = n + 2 := by rw [hbs]; exact hn
  obtain ⟨m, hm⟩ : ∃ m, es.length = m := ⟨_, rfl⟩
  have la : m ≤ 10000 := by have := L_V_len hx.ws; rw [← hm, hes]; omega
  have lb : n + 2 ≤ 10000 := by have := L_V_len hy.ws; omega
  have lm : n + 2 ≤ m := by
    rw [← hm, hes]
    exact digs_length_lt _ (by decide) (n + 1) _ (Nat.le_trans (L_ge _ _ hn) h0)
  obtain ⟨z, hzc, hz0'⟩ : ∃ z : Int, z = NT.cmpI (V xs) (V ys) ∧ 0 ≤ z := ⟨_, rfl, by unfold NT.cmpI; rw [if_neg (by omega)]; split <;> omega⟩
  obtain ⟨t, ht⟩ : ∃ t, t = (L (V ys))[n + 1]'(by omega) := ⟨_, rfl⟩
  have wt : t < 18446744073709551616 := by rw [ht]; exact Ws_L _ _ (List.getElem_mem _)
  obtain ⟨bl, hbl⟩ : ∃ bl, bl = bitLen t := ⟨_, rfl⟩
  have bl64 : bl ≤ 64 := by rw [hbl]; exact (bitLen_le_iff t 64).2 (by simpa using wt)
  obtain ⟨by', hby⟩ : ∃ z, z = 64 - bl := ⟨_, rfl⟩
  obtain ⟨D, hD⟩ : ∃ D, D = V ys * 2 ^ by' := ⟨_, rfl⟩
  obtain ⟨A, hA⟩ : ∃ A, A = V xs * 2 ^ by' := ⟨_, rfl⟩
  obtain ⟨ds, hds⟩ : ∃ ds, ds = L D := ⟨_, rfl⟩
  obtain ⟨ss, hss⟩ : ∃ ss, ss = L A := ⟨_, rfl⟩
  have ld : ds.length = n + 2 := by rw [hds, hD]; exact norm_len (V ys) (n + 1) t by' hn ht (by rw [hby, hbl])
  have hbc : bs[n + 1]?.getD 0 = t := by rw [hbs, ht]; simp [hn]
  have HCM := Lib.hid (fun (w1 : World) p1 c1 p2 c2 (h1 : Rd w1 p1 c1 es) (h2 : Rd w1 p2 c2 bs) => NR.cmp h1 h2 hm lb2 (by omega) (by omega) z (by rw [hzc, hes, hbs, V_L, V_L]))
  have HLN := Lib.hid (fun (w1 : World) => lenW t bl wt hbl w1)
  have HS1 := Lib.hid (fun (w1 : World) p1 c1 (h1 : Rd w1 p1 c1 bs) (zi : Int) (hzi : zi = by') => shlI (zs := ds) h1 lb2 (by omega) zi by' hzi (by omega) (by rw [hds, hbs, V_L, hD]))
  have HS2 := Lib.hid (fun (w1 : World) p1 c1 (h1 : Rd w1 p1 c1 es) (zi : Int) (hzi : zi = by') => shlI (zs := ss) h1 hm (by omega) zi by' hzi (by omega) (by rw [hss, hes, V_L, hA]))
  have HM := Lib.hid hm
  have HB2 := Lib.hid lb2
  have HDL := Lib.hid ld
  have HBC := Lib.hid hbc
  have HBY := Lib.hid hby
  have HBL := Lib.hid bl64
  have HDD := Lib.hid hD
  have HAA := Lib.hid hA
  have HDS := Lib.hid hds
  have HSS := Lib.hid hss
  have HQ := Lib.hid hq
  have HRR := Lib.hid hr
  have HN := Lib.hid hn
  have HTT := Lib.hid (show 0 < t by rw [ht]; exact top_pos _ _ hn)
  have HDT := Lib.hid wt
  have HE := Lib.hid (show es.length = m ∧ (L (V xs)).length = m from ⟨hm, by rw [← hes]; exact hm⟩)
  have HX0 := Lib.hid h0
  clear hx hy lx ly hm lb2 ld hbc hzc hby hD hA hds hss hq hr hn ht hbl hes hbs h0
  go_enter Tryz.func52, Tryz.ntmps52
  go_wp2_with fail
  refine HA.out.mono ?_
  rintro e w1 ⟨p1, c1, rfl, ho1, hb1⟩
  rw [HM.out]
  have HY1 := HY.out.nx hb1
  have HK := Lib.hid hb1
  clear HA hb1 HY
  go_wp2_with fail
  refine (HB.out w1 HY1).mono ?_
  rintro e w2 ⟨p2, c2, rfl, ho2, hb2⟩
  rw [HB2.out]
  have ha2 := Lib.hid (ho1.rd.nx hb2)
  have hb2r := Lib.hid ho2.rd
  obtain ⟨g2, rfl, _, _⟩ := ho2.some_of (by intro h; have := HB2.out; rw [h] at this; simp at this)
  have HC1 := Lib.hid (HCM.out w2 p1 c1 (some ⟨g2, 0, none⟩) c2 ha2.out hb2r.out)
  have HD1 := Lib.hid (HS1.out w2 (some ⟨g2, 0, none⟩) c2 hb2r.out)
  have hcell := ho2.cell (n + 1) (by rw [HB2.out]; omega)
  rw [HBC.out] at hcell
  have HK2 := Lib.hid (Kp.nx HK.out hb2)
  clear HB HY1 HK ho1 ho2 hb2 HCM HS1
  go_wp2_with fail
  refine HC1.out.mono ?_; rintro e w' ⟨rfl, rfl⟩
  go_wp2_with fail
  refine (HLN.out _).mono ?_; rintro e w' ⟨rfl, rfl⟩
  go_wp2_with fail
  refine (HD1.out _ (by rw [HBY.out]; omega)).mono ?_; rintro e w3 ⟨p3, c3, rfl, ho3, hb3⟩
  rw [HDL.out]
  obtain ⟨g3, rfl, hg3, hg3'⟩ := ho3.some_of (by intro h; have := HDL.out; rw [h] at this; simp at this)
  have hr3 := Lib.hid ho3.rd
  have HA3 := Lib.hid (ha2.out.nx hb3)
  have HK3 := Lib.hid (Kp.nx HK2.out hb3)
  have HE2 := Lib.hid (HS2.out w3 p1 c1 HA3.out)
  have HW := Lib.hid (show Ws ds from ho3.dig)
  clear ha2 hb2r hcell HK2 HC1 HD1 HS2 hb3 ho3 HA3
  go_wp2_with fail
  refine (HE2.out _ (by rw [HBY.out]; omega)).mono ?_; rintro e w4 ⟨p4, c4, rfl, ho4, hb4⟩
  obtain ⟨s, hs⟩ : ∃ s, ss.length = s := ⟨_, rfl⟩
  have hA2 : 0 < A := by
    rw [HAA.out]; refine Nat.mul_pos ?_ (Nat.two_pow_pos by')
    have := L_ge _ _ HN.out; have p : 0 < 18446744073709551616 ^ (n + 1) := Nat.pow_pos (by decide); have := HX0.out; omega
  have hs1 : s ≤ m + 1 := by
    rw [← hs, HSS.out, HAA.out]; exact shl_len _ _ _ HE.out.2 (by rw [HBY.out]; omega)
  have hsne : ss ≠ [] := by
    rw [HSS.out]; intro h; rw [L_nil] at h; omega
  obtain ⟨g4, rfl, hg4, hg4'⟩ := ho4.some_of hsne
  rw [hs]
  have hrow := ho4.row
  rw [hs] at hrow
  obtain ⟨g5, c5, w5, hr5, hown5, hgr5⟩ := run_append_own_zeros (P := Tryz.prog) w4 w3.heap.size 45 3 45 66 i0 (.int .u64 0) .i64 .i64 Tryz.underlying45 Tryz.underlying3 hi hz0 hz1 hz2 rfl rfl g4 s c4 (ss.map enc) hrow (m + 1 - s) (by omega) (by omega) hb4.size
  rw [show s + (m + 1 - s) = m + 1 by omega] at hr5 hown5
  rw [show ((m + 1 - s : Nat) : Int) = (m : Int) + 1 - (s : Int) by omega] at hr5
  have lor : (pad A (m + 1)).length = m + 1 := pad_len (by rw [← HSS.out, hs]; exact hs1)
  have ho5 : Own 66 w3.heap.size w5 (some ⟨g5, 0, none⟩) c5 (pad A (m + 1)) := by
    refine ⟨pad_ws _ _, ?_⟩
    rw [lor]
    have e : (pad A (m + 1)).map enc = ss.map enc ++ List.replicate (m + 1 - s) (.int .u64 0) := by
      unfold pad; rw [List.map_append, List.map_replicate, ← HSS.out, hs]; rfl
    rw [e]; exact hown5
  have hb35 : Below w3.heap.size w3 w5 := Below.grown hb4 hgr5 hb4.size (fun k hk => by cases hk; exact hg4)
  obtain ⟨w6, hmk, hown6, hgr6⟩ := run_make_full (P := Tryz.prog) w5 w5.heap.size 45 66 i0 (.int .u64 0) 1 Tryz.underlying45 hi hz0 hz1 .i64 .i64 (m - (n + 1)) (by rw [hz2]; omega) (by unfold maxLen; omega) (Nat.le_refl _)
  rw [Nat.mul_one, show (Value.int .u64 0).cells = #[Value.int .u64 0] from rfl, toList_madeCells_one] at hown6
  rw [show (((m - (n + 1) : Nat)) : Int) = (m : Int) - ((n : Int) + 2) + 1 by omega] at hmk
  have ho6 : Own 66 w5.heap.size w6 (some ⟨w5.heap.size, 0, none⟩) (m - (n + 1)) (List.replicate (m - (n + 1)) 0) := ⟨Dig.zeros (by decide) _, by simpa [enc] using hown6⟩
  have hb56 : Below w5.heap.size w5 w6 := (Below.refl _ _).grown hgr6 (Nat.le_refl _) (fun k hk => by cases hk)
  have g5lt : g5 < w5.heap.size := ho5.ge.2
  have g5ge : w3.heap.size ≤ g5 := ho5.ge.1
  obtain ⟨gq, hgq⟩ : ∃ g, g = w5.heap.size := ⟨_, rfl⟩
  obtain ⟨Q, hQ⟩ : ∃ Q, Q = m - (n + 1) := ⟨_, rfl⟩
  obtain ⟨orig, hor⟩ : ∃ o, o = pad A (m + 1) := ⟨_, rfl⟩
  have horw : Ws orig := by rw [hor]; exact pad_ws _ _
  have HVO := Lib.hid (show V orig = A by rw [hor]; exact pad_V _ _)
  have E0 : DvAt w3.heap.size g5 c5 gq (n + 2) D orig Q Q w3 w6 (orig.drop Q) (List.replicate Q 0) := by
    refine ⟨?_, by simp, ?_, ?_, ?_, ?_, ?_⟩
    · rw [hor]; simp [lor]; omega
    · rw [V_drop_div horw, HVO.out, HAA.out, HDD.out, hQ]; exact first_lt _ _ m (n + 1) by' HE.out.2 HN.out (by omega)
    · rw [List.drop_eq_nil_of_le (by simp)]; simp [V, val]
    · rw [List.take_append_drop, hor]; exact ho5.nx hb56
    · rw [hgq, hQ]; exact ho6.mono hb35.size
    · exact hb35.trans (hb56.mono hb35.size)
  rw [← hgq, ← hQ] at hmk
  rw [hor] at E0
  have HR5 := Lib.hid hr5
  have HMK := Lib.hid hmk
  have HQQ := Lib.hid hQ
  have HOR := Lib.hid hor
  have HLO := Lib.hid (show orig.length = m + 1 by rw [hor]; exact lor)
  have gql : g5 < gq := by rw [hgq]; exact g5lt
  rw [← hor] at E0
  have Q1 : 1 ≤ Q := by omega
  have Qm : Q ≤ m := by omega
  have Qn : Q + n + 1 ≤ m := by omega
  have Qn2 : m ≤ Q + n + 1 := by omega
  clear hr5 hmk hown5 hown6 hgr5 hgr6 ho4 ho5 ho6 hb4 hb35 hb56 hrow hsne hs hQ hor lor hgq g5lt HE2
  go_wp2_with (at_builtin; refine Lib.wpList_append_run _ rfl _ _ _ _ rfl _ _ rfl rfl _ _ HR5.out ?_)
  go_wp2_with (rw [HMK.out])
  have HDV := Lib.hid (show V ds = D by rw [HDS.out, V_L])
  have HDB := Lib.hid (show D ≤ 18446744073709551616 ^ (n + 2) by have := V_lt HW.out; rw [HDV.out, HDL.out] at this; omega)
  have HD0 := Lib.hid (show 0 < D by rw [HDD.out]; exact Nat.mul_pos (by have := L_ge _ _ HN.out; have p : 0 < 18446744073709551616 ^ (n + 1) := Nat.pow_pos (by decide); omega) (Nat.two_pow_pos by'))
  obtain ⟨td, htd⟩ : ∃ td, td = ds[n + 1]'(by rw [HDL.out]; omega) := ⟨_, rfl⟩
  have wtd : td < 18446744073709551616 := by rw [htd]; exact HW.out _ (List.getElem_mem _)
  have HT0 := Lib.hid (show 0 < td by
    rw [htd]; have e := HDS.out; have l := HDL.out
    exact top_key ds (n + 1) l (by rw [e]; exact digs_last 18446744073709551616 (by decide) D))
  have HTD := Lib.hid htd
  have HSL := Lib.hid (show Sl w3.heap.size w3 (some ⟨g3, 0, none⟩) c3 ds from hr3.out)
  have hcd : w3.cell? ⟨g3, n + 1, none⟩ = some (.int .u64 (td : Nat)) := by
    rcases hr3.out.at' with h0 | ⟨b, off, hbo, _, hc⟩
    · have := HDL.out; rw [h0] at this; simp at this
    · simp only [Option.some.injEq, Addr.mk.injEq, and_true] at hbo
      obtain ⟨rfl, rfl⟩ := hbo
      have := hc (n + 1) (by rw [HDL.out]; omega)
      rw [Nat.zero_add] at this
      rw [HTD.out]; exact this
  have HCD := Lib.hid hcd
  clear htd hcd hA2 hs1
  go_loopw [16] (fun s wr => ∃ (k : Nat) (vs qs : List Nat), s = .int .i64 ((k : Int) - 1) ∧ k ≤ Q ∧ DvAt w3.heap.size g5 c5 gq (n + 2) D orig Q k w3 wr vs qs) (fun s _ => (intOf s + 1).toNat)
  case atStart => exact ⟨Q, _, _, rfl, by omega, E0⟩
  case round =>
    obtain ⟨k, vs, us, rfl, hk, E⟩ := hrel
    clear E0
    cases k with
    | zero =>
      have e0 := E.eq
      simp only [List.drop_zero] at e0
      have hd := short_done _ _ _ _ HD0.out e0 E.vlt
      rw [HVO.out, HAA.out, HDD.out, Nat.mul_div_mul_right _ _ (Nat.two_pow_pos by'), Nat.mul_mod_mul_right] at hd
      have ow := E.ownl
      rw [List.take_zero, List.nil_append] at ow
      have lv : vs.length = m + 1 := by have := E.lv; rw [HLO.out] at this; omega
      have HS := Lib.hid (fun (zi : Int) (hzi : zi = by') => shrI (zs := rs) (l := m + 1) ow.rd lv (by omega) zi by' hzi (by rw [HBY.out]; omega) (by rw [HRR.out, hd.2, Nat.mul_div_cancel _ (Nat.two_pow_pos by')]))
      have HT := Lib.hid (fun (w1 : World) (hb : Kp wr w1) => NR.trim (zs := qs) (l := Q) (E.ownq.nx hb).rd E.lq (by omega) (by rw [HQ.out, hd.1]))
      have HKW := Lib.hid (Kp.nx HK3.out (show Kp w3 wr from E.bel))
      clear e0 hd ow lv E
      go_wp2_with fail
      refine (HS.out _ (by rw [HBY.out]; omega)).mono ?_; rintro e w9 ⟨p9, c9, rfl, ho9, hb9⟩
      have HF := Lib.hid (And.intro ho9 hb9)
      have HT1 := Lib.hid (HT.out w9 hb9)
      clear ho9 hb9 HS HT
      go_wp2_with fail
      refine HT1.out.mono ?_; rintro e w10 ⟨p10, c10, rfl, ho10, hb10⟩
      have hf := Lib.hid (show GivesQ w qs rs 0 (.returned (.tuple #[.slice p10 qs.length c10, .slice p9 rs.length c9, .int .i64 0])) w10 from
        ⟨p10, c10, p9, c9, rfl, ho10.mono (Nat.le_trans HKW.out.size HF.out.2.size), (HF.out.1.nx hb10).mono HKW.out.size, by
          intro g hg
          rcases ho10.cases with ⟨rfl, _⟩ | ⟨j, rfl, h1, _⟩
          · simp [blk]
          · rcases HF.out.1.cases with ⟨rfl, _⟩ | ⟨j2, rfl, _, h2, _⟩
            · simp at hg
            · simp at hg; simp [blk]; omega, Kp.nx HKW.out (Kp.nx HF.out.2 hb10)⟩)
      clear HT1 ho10 hb10
      go_wp2_with fail
      go_ret3
      exact hf.out
    | succ i =>
      rw [show ((i + 1 : Nat) : Int) - 1 = (i : Int) by omega]
      have hio : i < orig.length := by rw [HLO.out]; omega
      obtain ⟨x, hx⟩ : ∃ x, x = orig[i] := ⟨_, rfl⟩
      have hxw : x < 18446744073709551616 := by rw [hx]; exact horw _ (List.getElem_mem _)
      have hiN : i + (n + 2) + 1 ≤ orig.length := by rw [HLO.out]; omega
      obtain ⟨ws, post, lw, lp, zp, vw, plt, ol⟩ := E.opened HDB.out hiN x hx hxw
      have lti : (orig.take i).length = i := by simp; omega
      have chi := ol.cell (i + (n + 2)) (by simp only [List.length_append, lti]; omega)
      have clo := ol.cell (i + (n + 1)) (by simp only [List.length_append, lti]; omega)
      have ghi := mid_get (orig.take i) ws post (n + 2) (by omega)
      have glo := mid_get (orig.take i) ws post (n + 1) (by omega)
      rw [lti] at ghi glo
      rw [ghi] at chi
      rw [glo] at clo
      obtain ⟨hi', hhi⟩ : ∃ t, t = ws[n + 2]'(by omega) := ⟨_, rfl⟩
      obtain ⟨lo', hlo⟩ : ∃ t, t = ws[n + 1]'(by omega) := ⟨_, rfl⟩
      rw [← hhi] at chi
      rw [← hlo] at clo
      have wsw : Ws ws := fun y hy => ol.dig y (by simp [hy])
      have whi : hi' < 18446744073709551616 := by rw [hhi]; exact wsw _ (List.getElem_mem _)
      have wlo : lo' < 18446744073709551616 := by rw [hlo]; exact wsw _ (List.getElem_mem _)
      obtain ⟨P, hP⟩ : ∃ P, P = V ws := ⟨_, rfl⟩
      obtain ⟨q, hq⟩ : ∃ q, q = gs hi' lo' td := ⟨_, rfl⟩
      have wq : q < 18446744073709551616 := by rw [hq]; exact gs_lt _ _ _ HT0.out wlo
      have QH := Lib.hid (show P / D ≤ q by
        rw [hP, hq, ← HDV.out]
        exact qhat ws ds (n + 1) wsw HW.out lw HDL.out td hi' lo' HTD.out hhi hlo HT0.out (by rw [HDV.out]; exact plt))
      have cd := HCD.out
      rw [← E.bel.cell (p := ⟨g3, n + 1, none⟩) hg3'] at cd
      have HG := Lib.hid (fun w => guess hi' lo' td q wtd wlo w hq)
      have HVW := Lib.hid vw
      have HPV := Lib.hid hP
      have HLW := Lib.hid lw
      have HLP := Lib.hid lp
      have HZP := Lib.hid zp
      have HX1 := Lib.hid hx
      have HPL := Lib.hid plt
      have HLT := Lib.hid lti
      have hiq : i < Q := by omega
      have cq := E.ownq.cell i (by rw [E.lq]; exact hiq)
      have cfq := E.ownq.free i
      have hc5 : m + 1 ≤ c5 := by have h1 := HLO.out; have := ol.cap; simp only [List.length_append, lti] at this; omega
      clear ghi glo hhi hlo hq hP vw lw lp zp hx plt lti hiN
      obtain ⟨wo, rfl⟩ : ∃ wo : World, wo = wr := ⟨_, rfl⟩
      go_wp2_with fail
      have hw1 : IntKind.i64.wrap ((n : Int) + 2 - 1) = (n : Int) + 1 := by rw [IntWalk.i64_in _ (by omega)]; omega
      have hw2 : ((n : Int) + 1).toNat = n + 1 := by omega
      have hw3 : (0 : Int) ≤ (n : Int) + 1 := by omega
      have ne1 : ¬ g5 = gq := by omega
      have ne2 : ¬ g3 = gq := by omega
      have ne3 : ¬ gq = g5 := by omega
      have ne4 : ¬ gq = g3 := by omega
      have hw4 : ((n : Int) + 2).toNat = n + 2 := by omega
      have hw5 : (0 : Int) ≤ (n : Int) + 2 := by omega
      have hw6 : (n : Int) + 2 < ((n + 3 : Nat) : Int) := by omega
      have hw7 : (n : Int) + 1 < ((n + 3 : Nat) : Int) := by omega
      have hw8 : (n : Int) + 1 < ((n + 2 : Nat) : Int) := by omega
      rw [show i + (n + 2) + 1 - i = n + 3 by omega]
      go_region_held3 (fun w' => w'.cell? ⟨g5, i + (n + 2), none⟩ = some (.int .u64 (hi' : Nat)) ∧ w'.cell? ⟨g5, i + (n + 1), none⟩ = some (.int .u64 (lo' : Nat)) ∧ w'.cell? ⟨g3, n + 1, none⟩ = some (.int .u64 (td : Nat))) (go_keep)
        (first | (go_at_call 75; refine (HG.out _).mono ?_; rintro e w' ⟨rfl, kk, rfl⟩))
      have hB0 : w3.heap.size ≤ w3.heap.size := Nat.le_refl _
      have O5 := ((ol.dr (1 + kk)).kept ((E.ownq.dr (1 + kk)).store i q wq).2 (fun g hg => by simp at hg; subst hg; simpa using ne1))
      have O6 := ((E.ownq.dr (1 + kk)).store i q wq).1
      have BL := (below_drewN E.bel (1 + kk)).setCell (p := ⟨gq, i, none⟩) (show w3.heap.size ≤ gq by omega) (.int .u64 (q : Int))
      have EE := Lib.hid E
      have CQ0 : ∀ qq, (us.set i qq)[i]?.getD 0 = qq := by intro qq; simp [show i < us.length by rw [E.lq]; exact hiq]
      have SS : ∀ (x y : Nat), (us.set i x).set i y = us.set i y := by intro x y; simp
      have LQ := Lib.hid (show ∀ x, i < (us.set i x).length by intro x; rw [List.length_set, E.lq]; exact hiq)
      generalize ((wo.drewN (1 + kk)).setCell ⟨gq, i, none⟩ (.int .u64 (q : Int))) = w7 at O5 O6 BL ⊢
      have HTK := Lib.hid (show Calls Tryz.prog 76 #[.slice (some ⟨g5, i, none⟩) (n + 3) (c5 - i), .slice (some ⟨g3, 0, none⟩) (n + 2) c3, .int .u64 (q : Int)] w7 _ from
        take w3.heap.size g5 c5 w3.heap.size (orig.take i) ws post (some ⟨g3, 0, none⟩) c3 i (n + 2) (c5 - i) ds q w7 O5 (HSL.out.below BL hB0) g5ge BL.size HLT.out HDL.out HLW.out (by omega) (by omega) wq)
      have cq7 := O6.cell i (LQ.out _)
      rw [CQ0] at cq7
      have cf7 := O6.free i
      have BB := Lib.hid BL
      have OO := Lib.hid O6
      clear O5 O6 BL E ol chi clo cd cq cfq hw1 hw2 hw3 hw4 hw5 hw6 hw7 hw8
      have HCQ := Lib.hid CQ0
      have HSS2 := Lib.hid SS
      clear CQ0 SS HG
      go_wp2_with fail
      refine HTK.out.mono ?_; rintro e w8 ⟨bo, ws1, rfl, hbo, lw1, hv1, ol1, hg1⟩
      clear HTK cq7 cf7
      have oq1 := OO.out.kept hg1 (fun g hg => by simp at hg; subst hg; simpa using ne3)
      have bl1 := BB.out.grown hg1 BB.out.size (fun k hk => by cases hk; exact g5ge)
      have HV1 := Lib.hid hv1
      have LW1 := Lib.hid lw1
      have hw1lt : V ws1 < 18446744073709551616 ^ (n + 3) := by
        have := V_lt (show Ws ws1 from fun y hy => ol1.dig y (by simp [hy])); rw [LW1.out] at this; exact this
      have HWL := Lib.hid hw1lt
      clear hv1 lw1 BB OO hw1lt
      rcases (show bo = 0 ∨ bo = 1 by omega) with hb0 | hb0
      · subst hb0
        rw [show ((0 : Nat) : Int) = (0 : Int) from rfl]
        have t0 := took0 (V ws1) D q P HD0.out (by have := HV1.out; rw [HDV.out, ← HPV.out] at this; omega) QH.out
        have EN := Lib.hid (EE.out.closed HD0.out (by rw [HLO.out]; omega) hiq x HX1.out P q (by rw [HPV.out, HVW.out]) LW1.out HLP.out HZP.out t0.1 t0.2 ol1 oq1 bl1)
        clear t0 ol1 oq1 bl1 hg1
        go_wp2_with fail
        go_roundw
        case rel => exact ⟨i, _, _, by go_num, by omega, EN.out⟩
        case measure => simp [intOf]
      · subst hb0
        rw [show ((1 : Nat) : Int) = (1 : Int) from rfl]
        have q1 : 0 < q := by
          rcases Nat.eq_zero_or_pos q with h | h
          · have := HV1.out; have h2 := HWL.out; rw [h, Nat.mul_zero] at this
            rw [show n + 2 + 1 = n + 3 by omega] at this; omega
          · exact h
        have cq8 := oq1.cell i (LQ.out _)
        rw [HCQ.out] at cq8
        have cf8 := oq1.free i
        have o9 := oq1.store i (q - 1) (by omega)
        rw [HSS2.out] at o9
        have ol9 := ol1.kept o9.2 (fun g hg => by simp at hg; subst hg; simpa using ne1)
        have bl9 := bl1.setCell (p := ⟨gq, i, none⟩) (show w3.heap.size ≤ gq by omega) (.int .u64 ((q - 1 : Nat) : Int))
        rw [show ((q - 1 : Nat) : Int) = (q : Int) - 1 by omega] at o9 ol9 bl9
        have HST := Lib.hid (show ∃ (qc : Nat) (ws2 : List Nat), qc < 18446744073709551616 ∧ ws2.length = n + 2 + 1 ∧ V ws2 + D * (qc + 1) = P + 18446744073709551616 ^ (n + 3) ∧ Own 66 w3.heap.size (w8.setCell ⟨gq, i, none⟩ (.int .u64 ((q : Int) - 1))) (some ⟨g5, 0, none⟩) c5 (orig.take i ++ ws2 ++ post) ∧ Own 66 w3.heap.size (w8.setCell ⟨gq, i, none⟩ (.int .u64 ((q : Int) - 1))) (some ⟨gq, 0, none⟩) Q (us.set i qc) ∧ Below w3.heap.size w3 (w8.setCell ⟨gq, i, none⟩ (.int .u64 ((q : Int) - 1))) from
          ⟨q - 1, ws1, by omega, LW1.out, by have := HV1.out; rw [HDV.out, ← HPV.out, show n + 2 + 1 = n + 3 by omega, Nat.one_mul] at this; rw [show q - 1 + 1 = q by omega]; exact this, ol9, o9.1, bl9⟩)
        clear o9 ol9 bl9 ol1 bl1 hg1 oq1
        go_wp2_with fail
        go_loopw [130] (fun _ wr => ∃ (qc : Nat) (ws2 : List Nat), qc < 18446744073709551616 ∧ Hid (ws2.length = n + 2 + 1) ∧ Hid (V ws2 + D * (qc + 1) = P + 18446744073709551616 ^ (n + 3)) ∧ Own 66 w3.heap.size wr (some ⟨g5, 0, none⟩) c5 (orig.take i ++ ws2 ++ post) ∧ Own 66 w3.heap.size wr (some ⟨gq, 0, none⟩) Q (us.set i qc) ∧ Below w3.heap.size w3 wr) (fun _ wr => match wr.cell? ⟨gq, i, none⟩ with | some (.int _ z) => z.toNat | _ => 0)
        case atStart =>
          obtain ⟨qc, ws2, h1, h2, h3, h4, h5, h6⟩ := HST.out
          exact ⟨qc, ws2, h1, h2, h3, h4, h5, h6⟩
        case round =>
          obtain ⟨qc, ws2, hqc, L2, V2, oa, ob, bc⟩ := hrel
          have HBK := Lib.hid (show Calls Tryz.prog 77 #[.slice (some ⟨g5, i, none⟩) (n + 3) (c5 - i), .slice (some ⟨g3, 0, none⟩) (n + 2) c3] wr _ from
            back w3.heap.size g5 c5 w3.heap.size (orig.take i) ws2 post (some ⟨g3, 0, none⟩) c3 i (n + 2) (c5 - i) ds wr oa (HSL.out.below bc hB0) g5ge bc.size HLT.out HDL.out L2.out (by omega) (by omega))
          have hw2lt : V ws2 < 18446744073709551616 ^ (n + 3) := by
            have := V_lt (show Ws ws2 from fun y hy => oa.dig y (by simp [hy])); rw [L2.out] at this; exact this
          have HW2 := Lib.hid hw2lt
          have OB := Lib.hid ob
          have BC := Lib.hid bc
          obtain ⟨wo, rfl⟩ : ∃ wo : World, wo = wr := ⟨_, rfl⟩
          clear hw2lt oa ob bc
          go_wp2_with fail
          refine HBK.out.mono ?_; rintro e w9 ⟨cy, ws3, rfl, hcy, lw3, hv3, ol3, hg3w⟩
          have ob3 := OB.out.kept hg3w (fun g hg => by simp at hg; subst hg; simpa using ne3)
          have bc3 := BC.out.grown hg3w BC.out.size (fun k hk => by cases hk; exact g5ge)
          have cq0 := OB.out.cell i (LQ.out _)
          rw [HCQ.out] at cq0
          have HV3 := Lib.hid hv3
          have LW3 := Lib.hid lw3
          clear HBK hv3 lw3 OB BC
          rcases (show cy = 0 ∨ cy = 1 by omega) with hc0 | hc0
          · subst hc0
            rw [show ((0 : Nat) : Int) = (0 : Int) from rfl]
            have hs : V ws3 + D * qc = P + 18446744073709551616 ^ (n + 3) := by
              have h1 := HV3.out; have h2 := V2.out; rw [HDV.out] at h1; rw [Nat.mul_add, Nat.mul_one] at h2; omega
            have hw3lt : V ws3 < 18446744073709551616 ^ (n + 3) := by
              have := V_lt (show Ws ws3 from fun y hy => ol3.dig y (by simp [hy])); rw [LW3.out] at this; exact this
            have q1 : 0 < qc := by
              rcases Nat.eq_zero_or_pos qc with h | h
              · rw [h, Nat.mul_zero] at hs; omega
              · exact h
            have cq9 := ob3.cell i (LQ.out _)
            rw [HCQ.out] at cq9
            have cf9 := ob3.free i
            have o9 := ob3.store i (qc - 1) (by omega)
            rw [HSS2.out] at o9
            have ol9 := ol3.kept o9.2 (fun g hg => by simp at hg; subst hg; simpa using ne1)
            have bl9 := bc3.setCell (p := ⟨gq, i, none⟩) (show w3.heap.size ≤ gq by omega) (.int .u64 ((qc - 1 : Nat) : Int))
            have cqn := o9.1.cell i (LQ.out _)
            rw [HCQ.out] at cqn
            rw [show ((qc - 1 : Nat) : Int) = (qc : Int) - 1 by omega] at o9 ol9 bl9 cqn
            have HN2 := Lib.hid (show V ws3 + D * (qc - 1 + 1) = P + 18446744073709551616 ^ (n + 3) by rw [show qc - 1 + 1 = qc by omega]; exact hs)
            have HO2 := Lib.hid (And.intro ol9 (And.intro o9.1 bl9))
            have HC2 := Lib.hid cqn
            have HC0 := Lib.hid cq0
            clear hs hw3lt o9 ol9 bl9 ol3 ob3 bc3 hg3w cqn cq0
            go_wp2_with fail
            go_roundw
            case rel => exact ⟨qc - 1, ws3, by omega, LW3, HN2, HO2.out.1, HO2.out.2.1, HO2.out.2.2⟩
            case measure => rw [HC2.out, HC0.out]; simp; omega
          · subst hc0
            rw [show ((1 : Nat) : Int) = (1 : Int) from rfl]
            have t0 := back1 (V ws3) D qc P HD0.out (by
                have h1 := HV3.out; have h2 := V2.out; rw [HDV.out] at h1; rw [Nat.mul_add, Nat.mul_one] at h2
                rw [show n + 2 + 1 = n + 3 by omega] at h1; omega) (by have h1 := HW2.out; have h2 := V2.out; omega)
            have EN := Lib.hid (EE.out.closed HD0.out (by rw [HLO.out]; omega) hiq x HX1.out P qc (by rw [HPV.out, HVW.out]) LW3.out HLP.out HZP.out t0.1 t0.2 ol3 ob3 bc3)
            clear t0 ol3 ob3 bc3 hg3w cq0
            go_wp2_with fail
            go_roundw
            case rel => exact ⟨i, _, _, by go_num, by omega, EN.out⟩
            case measure => simp [intOf]
end Go.Proofs.QT
/- The document's functions of layer 3: Div. -/
namespace Go.Proofs.QR
open Go.RowKit
open Go.Proofs
open Go.Proofs.NP
open Go.Proofs.SL
open Go.Proofs.NR
set_option linter.unusedVariables false
set_option maxRecDepth 20000
set_option linter.unusedSimpArgs false
variable {w : World} {a b : Option Addr} {ca cb l k : Nat} {xs ys zs : List Nat}

/-- a place more of a number that is divided -/
theorem bitdiv (z be y : Nat) (hy : 0 < y) (hb : be ≤ 1) : (2 * z + be) / y = (z / y + z / y) + (if y ≤ (z % y + z % y) + be then 1 else 0) ∧ (2 * z + be) % y = (z % y + z % y) + be - (if y ≤ (z % y + z % y) + be then y else 0) := by
  have e := Nat.div_add_mod z y
  have lt := Nat.mod_lt z hy
  generalize z / y = q at *
  generalize z % y = r at *
  subst e
  have h2 : 2 * (y * q + r) + be = (r + r + be) + y * (q + q) := by rw [Nat.mul_add, Nat.mul_add]; omega
  rw [h2, Nat.add_mul_div_left _ _ hy, Nat.add_mul_mod_self_left]
  split
  · have : (r + r + be) / y = 1 := by
      rw [Nat.div_eq_iff hy]; omega
    have m := Nat.div_add_mod (r + r + be) y
    rw [this] at m ⊢
    omega
  · rw [Nat.div_eq_of_lt (by omega), Nat.mod_eq_of_lt (by omega)]; omega
theorem half (x i : Nat) : x / 2 ^ i = 2 * (x / 2 ^ (i + 1)) + x / 2 ^ i % 2 := by
  rw [Nat.pow_succ, ← Nat.div_div_eq_div_mul]; omega

/-- a quotient, and what is left: to be read -/
def GivesR (w : World) (qs rs : List Nat) (c : Int) (en : Ending) (w' : World) : Prop :=
  ∃ p cp r cr, en = .returned (.tuple #[.slice p qs.length cp, .slice r rs.length cr, .int .i64 c]) ∧ Rd w' p cp qs ∧ Rd w' r cr rs ∧ Kp w w'

end Go.Proofs.QR
/- quo.Div, and the document's Div, for any two naturals; greatest common divisors. -/
namespace Go.Proofs.QR
open Go.RowKit
open Go.Proofs
open Go.Proofs.NP
open Go.Proofs.SL
open Go.Proofs.NR
open Go.Proofs.QT (GivesQ)
set_option linter.unusedVariables false
set_option maxRecDepth 20000
set_option linter.unusedSimpArgs false
variable {w : World} {a b : Option Addr} {ca cb l k : Nat} {xs ys zs : List Nat}

/-- what is left, as it is told -/
def drL (x y : Nat) : List Nat := if y = 0 then [] else L (x % y)
def dE (y : Nat) : Int := if y = 0 then 7 else 0

theorem div1 (hx : Rd w a ca xs) (hy : Rd w b cb ys) (lx : xs.length = l) (ly : ys.length = k) (h : l ≤ 10000) (h' : k ≤ 10000) (qs rs : List Nat) (c : Int) (hq : qs = L (V xs / V ys)) (hr : rs = drL (V xs) (V ys)) (hc : c = dE (V ys)) :
    Calls Tryz.prog 52 #[.slice a l ca, .slice b k cb] w (GivesQ w qs rs c) := by
  by_cases h0 : V ys = 0
  · obtain rfl : qs = [] := by rw [hq, h0, Nat.div_zero]; rfl
    obtain rfl : rs = [] := by rw [hr, drL, if_pos h0]
    obtain rfl : c = 7 := by rw [hc, dE, if_pos h0]
    exact QT.div_zero hx hy lx ly h h' h0
  · rw [drL, if_neg h0] at hr
    obtain rfl : c = 0 := by rw [hc, dE, if_neg h0]
    rcases Nat.lt_or_ge (V xs) (V ys) with hlt | hge
    · obtain rfl : qs = [] := by rw [hq, Nat.div_eq_of_lt hlt]; rfl
      exact QT.div_less hx hy lx ly h h' hlt (by rw [hr, Nat.mod_eq_of_lt hlt])
    · obtain ⟨bs, hbs⟩ : ∃ bs, bs = L (V ys) := ⟨_, rfl⟩
      match bs, hbs with
      | [], hbs => exact absurd ((L_nil _).1 hbs.symm) h0
      | [d], hbs => exact QT.div_short hx hy lx ly h h' d hbs.symm hge qs rs hq hr
      | d :: e :: bs, hbs => exact QT.div_long hx hy lx ly h h' bs.length (by rw [← hbs]; rfl) hge qs rs hq hr

/-- what a slice reads as, for a measure -/
def rdl (w : World) (p : Option Addr) (n : Nat) : List Nat := match p with
  | some a => (List.range n).map fun i => match w.cell? ⟨a.block, a.off + i, none⟩ with | some (.int _ z) => z.toNat | _ => 0
  | none => []
theorem rdl_eq {p : Option Addr} {c : Nat} (h : Rd w p c xs) : rdl w p xs.length = xs := by
  rcases h.at' with h0 | ⟨b, off, rfl, _, hc⟩
  · subst h0; unfold rdl; cases p <;> rfl
  · unfold rdl
    apply List.ext_getElem
    · simp
    · intro i h1 h2
      simp [hc i h2]
def mu : Value → World → Nat
  | .slice q n _, w => V (rdl w q n)
  | _, _ => 0
theorem mu_eq {p : Option Addr} {c Y : Nat} (h : Rd w p c xs) (hY : xs = L Y) : mu (.slice p xs.length c) w = Y := by
  show V (rdl w p xs.length) = Y
  rw [rdl_eq h, hY, V_L]

/-- what holds at every pass of Gcd -/
structure GAt (w wr : World) (M X0 Y0 : Nat) (p q : Option Addr) (c d X Y : Nat) (us vs : List Nat) : Prop where
  lu : us.length ≤ M
  lv : vs.length ≤ M
  eu : us = L X
  ev : vs = L Y
  fx : Fits X M
  fy : Fits Y M
  eg : Nat.gcd X Y = Nat.gcd X0 Y0
  su : Own 66 w.heap.size wr p c us
  sv : Own 66 w.heap.size wr q d vs
  kw : Kp w wr

theorem GAt.next {w wr w' : World} {M X0 Y0 : Nat} {p q r : Option Addr} {c d e X Y : Nat} {us vs rs : List Nat} (G : GAt w wr M X0 Y0 p q c d X Y us vs) (h0 : Y ≠ 0) (hr : rs = L (X % Y)) (hk : Kp wr w') (ho : Own 66 wr.heap.size w' r e rs) :
    GAt w w' M X0 Y0 q r d e Y (X % Y) vs rs ∧ mu (.slice r rs.length e) w' < mu (.slice q vs.length d) wr := by
  have fr : Fits (X % Y) M := G.fy.mono (Nat.le_of_lt (Nat.mod_lt _ (by omega)))
  refine ⟨⟨G.lv, by rw [hr]; exact fr.len, G.ev, hr, G.fy, fr, ?_, G.sv.nx hk, ho.mono G.kw.size, Kp.nx G.kw hk⟩, ?_⟩
  · rw [← G.eg, Nat.gcd_comm X Y, Nat.gcd_rec Y X, Nat.gcd_comm]
  · rw [mu_eq ho.rd hr, mu_eq G.sv.rd G.ev]; exact Nat.mod_lt _ (by omega)

set_option maxHeartbeats 4000000 in
theorem gcd1 (hx : Rd w a ca xs) (hy : Rd w b cb ys) (lx : xs.length = l) (ly : ys.length = k) (h : l ≤ 10000) (h' : k ≤ 10000) (hz : zs = L (Nat.gcd (V xs) (V ys))) :
    Calls Tryz.prog 51 #[.slice a l ca, .slice b k cb] w (Gives 66 w zs) := by
  obtain ⟨es, hes⟩ : ∃ es, es = L (V xs) := ⟨_, rfl⟩
  obtain ⟨bs, hbs⟩ : ∃ bs, bs = L (V ys) := ⟨_, rfl⟩
  have lea : es.length ≤ 10000 := by have := L_V_len hx.ws; rw [hes]; omega
  have leb : bs.length ≤ 10000 := by have := L_V_len hy.ws; rw [hbs]; omega
  obtain ⟨M, hM1, hM2⟩ : ∃ M, 10000 ≤ M ∧ M ≤ 10000 := ⟨10000, Nat.le_refl _, Nat.le_refl _⟩
  have FX := Lib.hid (show Fits (V xs) M from Fits.of hx.ws (by omega))
  have FY := Lib.hid (show Fits (V ys) M from Fits.of hy.ws (by omega))
  have HA := Lib.hid (NR.trim hx lx (by omega) hes)
  have HB := Lib.hid (fun (w1 : World) (hy : Rd w1 b cb ys) => NR.trim hy ly (by omega) hbs)
  have HY := Lib.hid hy
  have HZ := Lib.hid hz
  have HEA := Lib.hid hes
  have HEB := Lib.hid hbs
  obtain ⟨X0, hX0⟩ : ∃ X, X = V xs := ⟨_, rfl⟩
  obtain ⟨Y0, hY0⟩ : ∃ X, X = V ys := ⟨_, rfl⟩
  rw [← hX0] at FX HEA HZ
  rw [← hY0] at FY HEB HZ
  clear hx hy lx ly hz hes hbs hX0 hY0
  have HDV := Lib.hid (fun (wr : World) (p q : Option Addr) (c d X Y : Nat) (us vs : List Nat) (G : GAt w wr M X0 Y0 p q c d X Y us vs) (h0 : Y ≠ 0) => div1 G.su.rd G.sv.rd rfl rfl (Nat.le_trans G.lu hM2) (Nat.le_trans G.lv hM2) (L (X / Y)) (L (X % Y)) 0 (by rw [G.eu, G.ev, V_L, V_L]) (by rw [G.eu, G.ev, V_L, V_L, drL, if_neg h0]) (by rw [G.ev, V_L, dE, if_neg h0]))
  go_enter Tryz.func51, Tryz.ntmps51
  go_wp2
  refine wp_scope_jumps 0 (fun a' w' => ∃ (p q : Option Addr) (c d X Y : Nat) (us vs : List Nat) (u4 u5 u6 u7 u8 u9 u10 u11 u12 u13 u14 u15 u16 u17 u18 u19 u20 u21 u22 u23 u24 : Value), a' = { tmps := #[.slice p us.length c, .slice q vs.length d, undef, undef, u4, u5, u6, u7, u8, u9, u10, u11, u12, u13, u14, u15, u16, u17, u18, u19, u20, u21, u22, u23, u24], defers := [] } ∧ Hid (GAt w w' M X0 Y0 p q c d X Y us vs)) (fun a' w' => mu (a'.tmps.getD 1 undef) w') rfl ?_ ?_
  · go_wp2_with fail
    refine HA.out.mono ?_
    rintro e w1 ⟨p1, c1, rfl, ho1, hb1⟩
    have HY1 := HY.out.nx hb1
    have HO1 := Lib.hid ho1
    have HK := Lib.hid hb1
    clear HA hb1 HY ho1
    go_wp2_with fail
    refine (HB.out w1 HY1).mono ?_
    rintro e w2 ⟨p2, c2, rfl, ho2, hb2⟩
    have GA := Lib.hid (show GAt w w2 M X0 Y0 p1 p2 c1 c2 X0 Y0 es bs from ⟨by omega, by omega, HEA.out, HEB.out, FX.out, FY.out, rfl, HO1.out.nx hb2, ho2.mono HK.out.size, Kp.nx HK.out hb2⟩)
    clear HB HY1 HK ho2 hb2 HO1
    by_cases h0 : Y0 = 0
    · have G := GA.out
      rw [h0] at G
      have e1 : bs = [] := G.ev
      have e2 : es = zs := by first | rw [G.eu, HZ.out, ← G.eg, Nat.gcd_zero_right] | rw [G.eu, HZ.out, h0, Nat.gcd_zero_right]
      have hf := Lib.hid (show Gives 66 w zs (.returned (.slice p1 zs.length c1)) w2 from ⟨p1, c1, rfl, by have := G.su; rw [e2] at this; exact this, G.kw⟩)
      have hl : bs.length = 0 := by rw [e1]; rfl
      have hl2 : es.length = zs.length := by rw [e2]
      clear GA G e1 e2 HDV
      rw [hl, hl2]
      clear hl hl2
      go_wp2
      go_step3
      go_wp2
      simp only [Exit.jump]
      go_ret
      exact hf.out
    · have HD := Lib.hid (HDV.out w2 p1 p2 c1 c2 X0 Y0 es bs GA.out h0)
      have HN := Lib.hid (fun (rs : List Nat) (r : Option Addr) (e : Nat) (w' : World) hr hk ho => GAt.next (rs := rs) (r := r) (e := e) (w' := w') GA.out h0 hr hk ho)
      have hl : 0 < bs.length := by
        rcases Nat.eq_zero_or_pos bs.length with h | h
        · have := List.eq_nil_of_length_eq_zero h; rw [GA.out.ev, L_nil] at this; exact absurd this h0
        · exact h
      obtain ⟨rs, hrs⟩ : ∃ z, z = L (X0 % Y0) := ⟨_, rfl⟩
      obtain ⟨qs, hqs⟩ : ∃ z, z = L (X0 / Y0) := ⟨_, rfl⟩
      rw [← hrs, ← hqs] at HD
      have HRS := Lib.hid hrs
      have lU : es.length ≤ 10000 := Nat.le_trans GA.out.lu hM2
      have lV : bs.length ≤ 10000 := Nat.le_trans GA.out.lv hM2
      clear hrs hqs h0 HDV GA
      go_wp2_with fail
      go_step3
      go_wp2_with fail
      refine HD.out.mono ?_; rintro e w3 ⟨p3, c3, p4, c4, rfl, ho3, ho4, _, hb3⟩
      have G2 := Lib.hid (HN.out rs p4 c4 w3 HRS.out hb3 ho4)
      clear HD HN ho3 ho4 hb3
      go_wp2_with fail
      go_step3
      exact ⟨rfl, p2, p4, c2, c4, Y0, X0 % Y0, bs, rs, _, _, _, _, _, _, _, _, _, _, _, _, _, _, _, _, _, _, _, _, _, rfl, G2.out.1⟩
  · rintro a' wr ⟨p, q, c, d, X, Y, us, vs, u4, u5, u6, u7, u8, u9, u10, u11, u12, u13, u14, u15, u16, u17, u18, u19, u20, u21, u22, u23, u24, rfl, GA⟩
    by_cases h0 : Y = 0
    · have G := GA.out
      rw [h0] at G
      have e1 : vs = [] := G.ev
      have e2 : us = zs := by first | rw [G.eu, HZ.out, ← G.eg, Nat.gcd_zero_right] | rw [G.eu, HZ.out, h0, Nat.gcd_zero_right]
      have hf := Lib.hid (show Gives 66 w zs (.returned (.slice p zs.length c)) wr from ⟨p, c, rfl, by have := G.su; rw [e2] at this; exact this, G.kw⟩)
      have hl : vs.length = 0 := by rw [e1]; rfl
      have hl2 : us.length = zs.length := by rw [e2]
      clear GA G e1 e2 HDV
      rw [hl, hl2]
      clear hl hl2
      go_wp2
      simp only [Exit.jump]
      go_ret
      exact hf.out
    · have HD := Lib.hid (HDV.out wr p q c d X Y us vs GA.out h0)
      have HN := Lib.hid (fun (rs : List Nat) (r : Option Addr) (e : Nat) (w' : World) hr hk ho => GAt.next (rs := rs) (r := r) (e := e) (w' := w') GA.out h0 hr hk ho)
      have hl : 0 < vs.length := by
        rcases Nat.eq_zero_or_pos vs.length with h | h
        · have := List.eq_nil_of_length_eq_zero h; rw [GA.out.ev, L_nil] at this; exact absurd this h0
        · exact h
      obtain ⟨rs, hrs⟩ : ∃ z, z = L (X % Y) := ⟨_, rfl⟩
      obtain ⟨qs, hqs⟩ : ∃ z, z = L (X / Y) := ⟨_, rfl⟩
      rw [← hrs, ← hqs] at HD
      have HRS := Lib.hid hrs
      have lU : us.length ≤ 10000 := Nat.le_trans GA.out.lu hM2
      have lV : vs.length ≤ 10000 := Nat.le_trans GA.out.lv hM2
      clear hrs hqs h0 HDV GA
      go_wp2_with fail
      refine HD.out.mono ?_; rintro e w3 ⟨p3, c3, p4, c4, rfl, ho3, ho4, _, hb3⟩
      have G2 := Lib.hid (HN.out rs p4 c4 w3 HRS.out hb3 ho4)
      clear HD HN ho3 ho4 hb3
      go_wp2_with fail
      go_step3
      exact ⟨rfl, ⟨q, p4, d, c4, Y, X % Y, vs, rs, _, _, _, _, _, _, _, _, _, _, _, _, _, _, _, _, _, _, _, _, _, rfl, G2.out.1⟩, G2.out.2⟩
end Go.Proofs.QR
