/- What layer 3's other laws meet: spoil, powers that are refused, the document's powers. -/
import Derived.Test.YtepndjcncmkkkaaQuoAwake
namespace Go.Proofs.QL
open Go.RowKit
open Go.Proofs
open Go.Proofs.NP
open Go.Proofs.SL
open Go.Proofs.NR
open Go.Proofs.QR
set_option linter.unusedVariables false
set_option linter.unusedSimpArgs false
variable {w : World} {a b : Option Addr} {ca cb l k : Nat} {xs ys zs : List Nat}

theorem Own.from' {e : TypeId} {B : Nat} {w : World} {a : Option Addr} {cap : Nat} {xs : List Nat} (h : Own e B w a cap xs) {C : Nat} (hC : C ≤ B) : ∀ k, blk a = some k → C ≤ k := by
  rcases h.cases with ⟨rfl, _⟩ | ⟨g, rfl, h1, _⟩
  · intro k hk; simp [blk] at hk
  · intro k hk; simp [blk] at hk; omega
theorem Own.apart {e e' : TypeId} {B B' : Nat} {w w' : World} {a a' : Option Addr} {cap cap' : Nat} {xs ys : List Nat} (h : Own e B w a cap xs) (h' : Own e' B' w' a' cap' ys) (hB : w.heap.size ≤ B') : ∀ g, a' = some ⟨g, 0, none⟩ → some g ≠ blk a := by
  intro g hg
  rcases h.cases with ⟨rfl, _⟩ | ⟨k, rfl, _, h1, _⟩
  · simp [blk]
  · rcases h'.cases with ⟨rfl, _⟩ | ⟨j, rfl, h2, _⟩
    · simp at hg
    · simp at hg; simp [blk]; omega

set_option maxHeartbeats 1000000 in
theorem spoil {B : Nat} (ho : Own 36 B w a ca xs) (lx : xs.length = l) :
    Calls Try.prog 16 #[.slice a l ca] w fun e w' => e = .returned (.tuple #[]) ∧ w.grownBy w' (blk a) := by
  subst lx
  have hmx : ca ≤ 9223372036854775807 := by have := ho.sl.max; unfold maxLen at this; omega
  rcases ho.row.2 with ⟨hv, h0⟩ | ⟨g, cap', cur, hv, hbg, hgg, hnc, hcm, hcs, ht⟩
  · simp only [Value.slice.injEq] at hv
    obtain ⟨rfl, _, rfl⟩ := hv
    rw [h0]
    clear ho
    go_enter Try.func16, Try.ntmps16
    go_wp2_with fail
    go_loopw [2] (fun s wr => s = .int .i64 0 ∧ Hid (w = wr)) (fun _ _ => 0)
    case atStart => exact ⟨rfl, rfl⟩
    case round =>
      obtain ⟨rfl, hw⟩ := hrel
      go_wp2_with fail
      go_end0
      have := hw.out
      subst this
      exact ⟨rfl, ⟨rfl, rfl, rfl, Nat.le_refl _, fun _ _ _ => rfl⟩⟩
  · simp only [Value.slice.injEq] at hv
    obtain ⟨rfl, _, rfl⟩ := hv
    have hlen : cur.toList.length = ca := by simpa using hcs
    have hnc' : xs.length ≤ ca := hnc
    have R0 : w.ownsRow B 36 1 (.slice (some ⟨g, 0, none⟩) ca ca) ca cur.toList := ⟨by simpa using hlen, .inr ⟨g, ca, cur, rfl, hbg, hgg, Nat.le_refl _, hcm, hcs, by rw [Nat.mul_one, List.take_of_length_le (by omega)]⟩⟩
    clear ho hgg ht hcm hcs
    go_enter Try.func16, Try.ntmps16
    go_wp2_with fail
    go_loopw [2] (fun s wr => ∃ (i : Nat) (vs : List Value), s = .int .i64 i ∧ i ≤ ca ∧ Hid (vs.length = ca) ∧ wr.ownsRow B 36 1 (.slice (some ⟨g, 0, none⟩) ca ca) ca vs ∧ Hid (w.grownBy wr (some g))) (fun s _ => ca - (intOf s).toNat)
    case atStart => exact ⟨0, _, rfl, by omega, hlen, R0, QT.grefl _ _⟩
    case round =>
      obtain ⟨i, vs, rfl, hi, hvl, R, hg⟩ := hrel
      by_cases hlt : i < ca
      · have hiv : i < vs.length := by rw [hvl.out]; exact hlt
        have hc := R.cellAt i (by omega)
        rw [List.getElem?_eq_getElem hiv] at hc
        have hf := R.frozenAt i
        have hs := R.stored i (.int .u64 7)
        obtain ⟨v, hv⟩ : ∃ v, v = vs[i] := ⟨_, rfl⟩
        rw [← hv] at hc
        have HR := Lib.hid hs.1
        have HG := Lib.hid (QT.gtrans hg.out hs.2)
        have HL := Lib.hid (show (vs.set i (.int .u64 7)).length = ca by rw [List.length_set]; exact hvl.out)
        clear hs R hv hiv R0
        go_wp2_with fail
        go_roundw
        case rel => exact ⟨i + 1, vs.set i (.int .u64 7), by go_num, by omega, HL, HR.out, HG⟩
        case measure => simp [intOf]; omega
      · have hf := Lib.hid (show w.grownBy wr (blk (some ⟨g, 0, none⟩)) from hg.out)
        clear R hg R0
        go_wp2_with fail
        go_end0
        exact ⟨rfl, hf.out⟩

theorem pow1 (hx : Rd w a ca xs) (lx : xs.length = l) (h : l ≤ 10000) (n : Nat) (nb : n ≤ 1048576) (hn : bitLen (V xs) * n ≤ 1048576) (hz : zs = L (V xs ^ n)) :
    Calls Try.prog 21 #[.slice a l ca, .int .i64 (n : Int)] w (GivesE 36 w zs) := by
  by_cases h0 : bitLen (V xs) = 0 ∧ 0 < n
  · obtain ⟨h1, h2⟩ := h0
    have hv : V xs = 0 := by
      by_cases hv : V xs = 0
      · exact hv
      · have := bitLen_pos _ hv; omega
    obtain rfl : zs = [] := by rw [hz, hv, Nat.zero_pow h2]; rfl
    have HL := Lib.hid (NR.len hx lx (by omega) 0 h1.symm)
    have hf := Lib.hid (show GivesE 36 w [] (.returned (.tuple #[.slice none 0 0, .int .i64 0])) w from ⟨none, 0, rfl, QT.ownNil _ _, Kp.refl _⟩)
    clear hx lx hz hv h1 hn
    go_enter Try.func21, Try.ntmps21
    go_wp2_with fail
    refine HL.out.mono ?_; rintro e w' ⟨rfl, rfl⟩
    go_wp2_with fail
    go_ret2
    exact hf.out
  · exact pow1_ok hx lx h n _ rfl hn (by omega) hz
theorem powI (hx : Rd w a ca xs) (lx : xs.length = l) (h : l ≤ 10000) (z : Int) (n : Nat) (hzn : z = n) (nb : n ≤ 1048576) (hn : bitLen (V xs) * n ≤ 1048576) (hz : zs = L (V xs ^ n)) :
    Calls Try.prog 21 #[.slice a l ca, .int .i64 z] w (GivesE 36 w zs) := by subst hzn; exact pow1 hx lx h n nb hn hz
theorem fpow {x i : Nat} (h : Fits x i) (k : Nat) : Fits (x ^ k) (i * k + 1) := by
  unfold Fits at *
  by_cases hk : k = 0
  · subst hk; rw [Nat.pow_zero]; exact Nat.one_lt_pow (by omega) (by decide)
  · have h1 := Nat.pow_lt_pow_left h hk
    rw [← Nat.pow_mul] at h1
    exact Nat.lt_of_lt_of_le h1 (Nat.pow_le_pow_right (by decide) (by omega))
end Go.Proofs.QL
