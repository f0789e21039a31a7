/- Contracts of quo.short, guess. -/
import Derived.Test.YtepndjcncmkkkaaQuoPure
import Derived.Test.YtepndjcncmkkkaaNatR
import Derived.Test.YtepndjcncmkkkaaWDiv
namespace Go.Proofs.QT
open Go.RowKit
open Go.Proofs
open Go.Proofs.NP
open Go.Proofs.SL
open Go.Proofs.QP
set_option linter.unusedVariables false
set_option linter.unusedSimpArgs false
variable {w : World} {a b : Option Addr} {ca cb l k : Nat} {xs ys zs : List Nat}

set_option maxHeartbeats 2000000 in
theorem short (hx : Rd w a ca xs) (lx : xs.length = l) (h : l ≤ 100000) (d r : Nat) (hd : 0 < d) (hd1 : d < 18446744073709551616) (hz : zs = L (V xs / d)) (hr : r = V xs % d) :
    Calls Try.prog 33 #[.slice a l ca, .int .u64 (d : Int)] w fun e w' => ∃ p c, e = .returned (.tuple #[.slice p zs.length c, .int .u64 (r : Int)]) ∧ Own 36 w.heap.size w' p c zs ∧ Below w.heap.size w w' := by
  subst lx
  obtain ⟨i0, hi, hz0, hz1, hz2⟩ := info_parts NT.Try.info36
  obtain ⟨wm, hmk, hown0, hgr0⟩ := run_make_full (P := Try.prog) w w.heap.size 23 36 i0 (.int .u64 0) 1 Try.underlying23 hi hz0 hz1 .i64 .i64 xs.length (by rw [hz2]; omega) (by unfold maxLen; omega) (Nat.le_refl _)
  rw [Nat.mul_one, show (Value.int .u64 0).cells = #[Value.int .u64 0] from rfl, toList_madeCells_one] at hown0
  have ho0 : Own 36 w.heap.size wm (some ⟨w.heap.size, 0, none⟩) xs.length (List.replicate xs.length 0) := ⟨Dig.zeros (by decide) _, by simpa [enc] using hown0⟩
  have hb0 : Below w.heap.size w wm := (Below.refl _ _).grown hgr0 (Nat.le_refl _) (fun k hk => by cases hk)
  clear hown0 hgr0
  have hEq := Lib.hid hmk
  have HZ := Lib.hid hz
  have HR := Lib.hid hr
  clear hmk hz hr
  go_enter Try.func33, Try.ntmps33
  go_wp2_with (rw [hEq.out])
  go_loopw [5, 6] (fun s5 s6 wr => ∃ (k r : Nat) (os : List Nat), s5 = .int .u64 r ∧ s6 = .int .i64 ((k : Int) - 1) ∧ k ≤ xs.length ∧ r < d ∧ os.length = xs.length ∧ Hid (V (os.drop k) * d + r = V (xs.drop k)) ∧ Own 36 w.heap.size wr (some ⟨w.heap.size, 0, none⟩) xs.length os ∧ Below w.heap.size w wr) (fun _ s _ => (intOf s + 1).toNat)
  case atStart => exact ⟨xs.length, 0, _, rfl, rfl, by omega, hd, by simp, by simp [Hid, V, val], ho0, hb0⟩
  case round =>
    obtain ⟨k, r', os, rfl, rfl, hk, hrd, hol, HE, ho, hb⟩ := hrel
    cases k with
    | zero =>
      have hv := short_done _ _ _ _ hd HE.out hrd
      simp only [List.drop_zero] at hv
      have HT := Lib.hid (NR.trim (zs := zs) (l := xs.length) ho.rd hol h (by rw [HZ.out, hv.1]))
      have e2 := Lib.hid (show r' = r by rw [HR.out]; exact hv.2)
      have hbb := Lib.hid hb
      clear hv ho hb HE ho0 hb0
      go_wp2_with fail
      refine HT.out.mono ?_
      rintro e w3 ⟨q3, d3, rfl, ho3, hb3⟩
      have hf := Lib.hid (show Own 36 w.heap.size w3 q3 d3 zs ∧ Below w.heap.size w w3 from ⟨ho3.mono hbb.out.size, hbb.out.trans (hb3.mono hbb.out.size)⟩)
      clear HT ho3 hb3
      go_wp2
      rw [e2.out]
      go_ret2
      exact ⟨_, _, rfl, hf.out⟩
    | succ n =>
      rw [show ((n + 1 : Nat) : Int) - 1 = (n : Int) by omega]
      have hn : n < xs.length := by omega
      rcases hx.at' with h0 | ⟨b, off, rfl, hbk, hc⟩
      · rw [h0] at hn; simp at hn
      have c1 : wr.cell? ⟨b, off + n, none⟩ = some (.int .u64 (xs[n] : Nat)) := by rw [hb.cell (p := ⟨b, off + n, none⟩) hbk]; exact hc n hn
      have hxn := hx.ws.get n hn
      have co := ho.cell n (by omega)
      have cf := ho.free n
      obtain ⟨s1, s2, s3⟩ := short_step _ d r' _ xs[n] hd HE.out hrd hxn
      have NX := Lib.hid (fun kk (D : Int) (hD : D = (((r' * 18446744073709551616 + xs[n]) / d : Nat) : Int)) => show Own 36 w.heap.size ((wr.drewN kk).setCell ⟨w.heap.size, n, none⟩ (.int .u64 D)) (some ⟨w.heap.size, 0, none⟩) xs.length (os.set n ((r' * 18446744073709551616 + xs[n]) / d)) ∧ Below w.heap.size w ((wr.drewN kk).setCell ⟨w.heap.size, n, none⟩ (.int .u64 D)) by
        subst hD
        exact ⟨((ho.dr kk).store n _ s2).1, (below_drewN hb kk).setCell (p := ⟨w.heap.size, n, none⟩) (Nat.le_refl _) _⟩)
      have HE2 : Hid (V ((os.set n ((r' * 18446744073709551616 + xs[n]) / d)).drop n) * d + (r' * 18446744073709551616 + xs[n]) % d = V (xs.drop n)) := by
        rw [Hid, V_drop_set _ _ _ (by omega), V_drop xs n hn]; exact s1
      have HS3 := Lib.hid s3
      obtain ⟨x, hxe⟩ : ∃ x, x = xs[n] := ⟨_, rfl⟩
      rw [← hxe] at c1 hxn NX HE2 HS3
      clear s1 s2 s3 hxe HE ho hb hc
      go_wp2_with fail
      refine (W.div_ok _ _ _ (by omega) (by omega) (by omega) (by omega) (by omega) _).mono ?_; rintro e1 w1 ⟨rfl, kk, rfl⟩
      go_wp2_with fail
      go_roundw
      case rel =>
        have := NX.out kk _ (show (((r' : Int) * 18446744073709551616 + (x : Int)) / (d : Int)) = _ by simp)
        exact ⟨n, (r' * 18446744073709551616 + x) % d, _, W.val_int (by simp), rfl, by omega, HS3.out, by simp [hol], HE2, this.1, this.2⟩
      case measure => simp [intOf]

theorem guess_most (hi lo d : Nat) (h : d ≤ hi) (w : World) :
    Calls Try.prog 36 #[.int .u64 (hi : Int), .int .u64 (lo : Int), .int .u64 (d : Int)] w fun e w' => e = .returned (.int .u64 18446744073709551615) ∧ ∃ kk, w.drewN kk = w' := by
  go_enter Try.func36, Try.ntmps36
  go_wp2_with fail
  go_ret
  exact ⟨rfl, 0, rfl⟩
theorem guess_div (hi lo d : Nat) (h : hi < d) (hd : d < 18446744073709551616) (hl : lo < 18446744073709551616) (w : World) :
    Calls Try.prog 36 #[.int .u64 (hi : Int), .int .u64 (lo : Int), .int .u64 (d : Int)] w fun e w' => e = .returned (.int .u64 (((hi * 18446744073709551616 + lo) / d : Nat) : Int)) ∧ ∃ kk, w.drewN kk = w' := by
  go_enter Try.func36, Try.ntmps36
  go_wp2_with fail
  refine (W.div_ok _ _ _ (by omega) (by omega) (by omega) (by omega) (by omega) _).mono ?_; rintro e1 w1 ⟨rfl, kk, rfl⟩
  go_wp2_with fail
  go_ret
  exact ⟨W.ret_int (by simp), kk, rfl⟩
/-- the guess, at all -/
def gs (hi lo d : Nat) : Nat := if d ≤ hi then 18446744073709551615 else (hi * 18446744073709551616 + lo) / d
theorem gs_lt (hi lo d : Nat) (hd : 0 < d) (hl : lo < 18446744073709551616) : gs hi lo d < 18446744073709551616 := by
  unfold gs; split
  · decide
  · rw [Nat.div_lt_iff_lt_mul hd]
    have : (hi + 1) * 18446744073709551616 ≤ d * 18446744073709551616 := Nat.mul_le_mul_right _ (by omega)
    omega
theorem guess (hi lo d g : Nat) (hd : d < 18446744073709551616) (hl : lo < 18446744073709551616) (w : World) (hg : g = gs hi lo d) :
    Calls Try.prog 36 #[.int .u64 (hi : Int), .int .u64 (lo : Int), .int .u64 (d : Int)] w fun e w' => e = .returned (.int .u64 (g : Int)) ∧ ∃ kk, w.drewN kk = w' := by
  subst hg
  unfold gs
  split
  · rename_i h; exact guess_most hi lo d h w
  · rename_i h; exact guess_div hi lo d (by omega) hd hl w
end Go.Proofs.QT
