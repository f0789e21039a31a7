/- The document's Trim, Of, Small of layer 2. -/
import Derived.Test.YtepndjcncmkkkaaRefC
import Derived.Test.YtepndjcncmkkkaaRefPur2
namespace Go.Proofs.RN
open Go.RowKit
open Go.Proofs
open Go.Proofs.NP
open Go.Proofs.SL
set_option linter.unusedVariables false
set_option linter.unusedSimpArgs false

variable {w : World} {a b : Option Addr} {ca cb l k : Nat} {xs ys zs : List Nat}

theorem digits' {ds : List Nat} (hx : Rd w a ca xs) (lx : xs.length = l) (h : l ≤ 100000) (hz : ds = D (V xs)) :
    Calls Try.prog 41 #[.slice a l ca] w (Gives 36 w ds) := by
  subst hz; exact digits a ca l xs w hx lx h
theorem join' (hx : Rd w a ca xs) (hd : Dig 65536 xs) (lx : xs.length = l) (h : l ≤ 1000000) (hz : zs = L (U xs)) :
    Calls Try.prog 52 #[.slice a l ca] w (Gives 36 w zs) := by
  subst hz; exact join a ca l xs w hx hd lx h

/-- one call gives what it tells out of what another one gave -/
theorem Gives.step {e : TypeId} {w w1 w2 : World} {q : Option Addr} {d : Nat} {zs : List Nat} (hb : Below w.heap.size w w1) (ho : Own e w1.heap.size w2 q d zs) (hb2 : Below w1.heap.size w1 w2) :
    Gives e w zs (.returned (.slice q zs.length d)) w2 := ⟨q, d, rfl, ho.mono hb.size, hb.trans (hb2.mono hb.size)⟩

theorem trim (hx : Rd w a ca xs) (lx : xs.length = l) (h : l ≤ 100000) (hz : zs = L (V xs)) :
    Calls Try.prog 40 #[.slice a l ca] w (Gives 36 w zs) := by
  obtain ⟨ds, hds⟩ : ∃ ds, ds = D (V xs) := ⟨_, rfl⟩
  have hdd : Dig 65536 ds := by rw [hds]; exact Dd _
  have hdl : ds.length ≤ 400000 := by have := D_len hx.ws; rw [hds]; omega
  have HZ := Lib.hid (show zs = L (U ds) by rw [hz, hds, UD])
  have HC := Lib.hid (digits' hx lx h hds)
  clear hz hds
  go_enter Try.func40, Try.ntmps40
  go_wp2_with fail
  refine HC.out.mono ?_
  rintro e w1 ⟨p, c, rfl, ho, hb⟩
  clear HC
  have HJ := Lib.hid (join' (zs := zs) ho.rd hdd rfl (by omega) HZ.out)
  clear HZ ho
  go_wp2_with fail
  refine HJ.out.mono ?_
  rintro e w2 ⟨q, d, rfl, ho2, hb2⟩
  have hf := Lib.hid (Gives.step hb ho2 hb2)
  clear HJ ho2 hb2 hb
  go_wp2
  go_ret
  exact hf.out

end Go.Proofs.RN
