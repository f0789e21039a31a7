/- The document's Trim, Of, Small of layer 2. -/
import Derived.Test.YtacjfbjhkogdaaaRefC
import Derived.Test.YtacjfbjhkogdaaaRefPur2
namespace Go.Proofs.RN
open Go.RowKit
open Go.Proofs
open Go.Proofs.NP
open Go.Proofs.SL
set_option linter.unusedVariables false
set_option linter.unusedSimpArgs false

variable {w : World} {a b : Option Addr} {ca cb l k : Nat} {xs ys zs : List Nat}

theorem digits' {ds : List Nat} (hx : Rd w a ca xs) (lx : xs.length = l) (h : l ≤ 100000) (hz : ds = D (V xs)) :
    Calls Try.prog 41 #[.slice a l ca] w (Gives 34 w ds) := by
  subst hz; exact digits a ca l xs w hx lx h
theorem join' (hx : Rd w a ca xs) (hd : Dig 65536 xs) (lx : xs.length = l) (h : l ≤ 1000000) (hz : zs = L (U xs)) :
    Calls Try.prog 42 #[.slice a l ca] w (Gives 34 w zs) := by
  subst hz; exact join a ca l xs w hx hd lx h

/-- one call gives what it tells out of what another one gave -/
theorem Gives.step {e : TypeId} {w w1 w2 : World} {q : Option Addr} {d : Nat} {zs : List Nat} (hb : Below w.heap.size w w1) (ho : Own e w1.heap.size w2 q d zs) (hb2 : Below w1.heap.size w1 w2) :
    Gives e w zs (.returned (.slice q zs.length d)) w2 := ⟨q, d, rfl, ho.mono hb.size, hb.trans (hb2.mono hb.size)⟩

theorem trim (hx : Rd w a ca xs) (lx : xs.length = l) (h : l ≤ 100000) (hz : zs = L (V xs)) :
    Calls Try.prog 36 #[.slice a l ca] w (Gives 34 w zs) := by
  obtain ⟨ds, hds⟩ : ∃ ds, ds = D (V xs) := ⟨_, rfl⟩
  have hdd : Dig 65536 ds := by rw [hds]; exact Dd _
  have hdl : ds.length ≤ 400000 := by have := D_len hx.ws; rw [hds]; omega
  have HZ := Lib.hid (show zs = L (U ds) by rw [hz, hds, UD])
  have HC := Lib.hid (digits' hx lx h hds)
  clear hz hds
  go_enter Try.func36, Try.ntmps36
  go_wp2_with fail
  refine HC.out.mono ?_
  rintro e w1 ⟨p, c, rfl, ho, hb⟩
  clear HC
  have HJ := Lib.hid (join' (zs := zs) ho.rd hdd rfl (by omega) HZ.out)
  clear HZ ho
  go_wp2_with fail
  refine HJ.out.mono ?_
  rintro e w2 ⟨q, d, rfl, ho2, hb2⟩
  have hf := Lib.hid (Gives.step hb ho2 hb2)
  clear HJ ho2 hb2 hb
  go_wp2
  go_ret
  exact hf.out

theorem of (n : Nat) (w : World) (hn : n < 18446744073709551616) (hz : zs = L n) :
    Calls Try.prog 37 #[.int .u64 (n : Int)] w (Gives 34 w zs) := by
  have hws : Ws [n] := by intro x hx; simp at hx; omega
  have HZ := Lib.hid (show zs = L (V [n]) by rw [hz]; simp [V, val])
  clear hz
  go_enter Try.func37, Try.ntmps37
  go_wp2_with fail
  refine (trim (zs := zs) (xs := [n]) (Rd.litn [n] _ hws rfl (by simp) rfl) rfl (by simp) HZ.out).mono ?_
  rintro e w2 ⟨q, d, rfl, ho2, hb2⟩
  have hf := Lib.hid (Gives.step ((Below.refl w.heap.size w).alloc (Nat.le_refl _) (.cells #[.int .u64 (n : Int)] 34)) ho2 hb2)
  clear ho2 hb2
  go_wp2
  go_ret
  exact hf.out

theorem small_no (hx : Rd w a ca xs) (lx : xs.length = l) (h : l ≤ 100000) (hv : 18446744073709551616 ≤ V xs) :
    Calls Try.prog 35 #[.slice a l ca] w fun e w' => e = .returned (.tuple #[.int .u64 0, .bool false]) ∧ Kp w w' := by
  obtain ⟨zs, hz⟩ : ∃ zs, zs = L (V xs) := ⟨_, rfl⟩
  have hl : 1 < zs.length := by rw [hz]; exact digs_length_lt _ (by decide) 1 _ (by simpa using hv)
  have HC := Lib.hid (trim hx lx h hz)
  clear hz
  go_enter Try.func35, Try.ntmps35
  go_wp2_with fail
  refine HC.out.mono ?_
  rintro e w1 ⟨p, c, rfl, ho, hb⟩
  clear HC
  have hf := Lib.hid hb
  clear hb ho
  go_wp2_with fail
  go_ret2
  exact ⟨rfl, hf.out⟩
theorem small_ok (hx : Rd w a ca xs) (lx : xs.length = l) (h : l ≤ 100000) (n : Nat) (hn : n = V xs) (hv : n < 18446744073709551616) :
    Calls Try.prog 35 #[.slice a l ca] w fun e w' => e = .returned (.tuple #[.int .u64 (n : Nat), .bool true]) ∧ Kp w w' := by
  obtain ⟨zs, hz⟩ : ∃ zs, zs = L (V xs) := ⟨_, rfl⟩
  have HC := Lib.hid (trim hx lx h hz)
  have hcase : (zs = [] ∧ n = 0) ∨ zs = [n] := by
    rw [← hn] at hz
    by_cases h0 : n = 0
    · left; subst h0; exact ⟨by rw [hz]; rfl, rfl⟩
    · right
      have e : L n = n % 18446744073709551616 :: L (n / 18446744073709551616) := digs_pos _ _ (by decide) h0
      rw [hz, e, Nat.div_eq_of_lt hv, Nat.mod_eq_of_lt hv]; rfl
  clear hz hn
  rcases hcase with ⟨rfl, rfl⟩ | rfl
  · go_enter Try.func35, Try.ntmps35
    go_wp2_with fail
    refine HC.out.mono ?_
    rintro e w1 ⟨p, c, rfl, ho, hb⟩
    clear HC
    have hf := Lib.hid hb
    clear hb ho
    go_wp2_with fail
    go_ret2
    exact ⟨rfl, hf.out⟩
  · go_enter Try.func35, Try.ntmps35
    go_wp2_with fail
    refine HC.out.mono ?_
    rintro e w1 ⟨p, c, rfl, ho, hb⟩
    clear HC
    obtain ⟨g, rfl, hg1, hg2⟩ := ho.some_of (by simp)
    have hc := ho.cell 0 (by simp)
    simp at hc
    have hf := Lib.hid hb
    clear hb ho
    go_wp2_with fail
    go_ret2
    exact ⟨rfl, hf.out⟩
end Go.Proofs.RN
