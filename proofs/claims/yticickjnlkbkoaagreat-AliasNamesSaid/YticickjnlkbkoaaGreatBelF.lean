/- Below: the examples that every statement asks: awake answers true. -/
import Derived.Test.YticickjnlkbkoaaGreatBelE
import Derived.Deep.RegionHeld3
namespace Go.Proofs.BL
open Go.RowKit
open Go.Proofs
open Go.Proofs.BT
open Go.Proofs.SL
open Go.Proofs.RA
open Go.Proofs.NR (Fits GivesE)
open Go
set_option linter.unusedVariables false
set_option linter.unusedSimpArgs false
set_option maxRecDepth 20000
variable {w : World} {us vs : List Nat}
/-- a variable that holds a fraction -/
structure RatV (W : World) (g : Nat) (p q : Option Addr) (c d : Nat) (us vs : List Nat) : Prop where
  bk : Bk W g #[.bool false, .slice p us.length c, .slice q vs.length d] 49
  ru : Rd W p c us
  rv : Rd W q d vs
theorem RatV.nx {W W' : World} {g : Nat} {p q : Option Addr} {c d : Nat} {us vs : List Nat} (h : RatV W g p q c d us vs) (hk : Kp W W') : RatV W' g p q c d us vs := ⟨h.bk.nx hk, h.ru.nx hk, h.rv.nx hk⟩
theorem RatV.new {W : World} {p q : Option Addr} {c d : Nat} {us vs : List Nat} (hu : Rd W p c us) (hv : Rd W q d vs) : RatV (W.alloc (.cells #[.bool false, .slice p us.length c, .slice q vs.length d] 49)) W.heap.size p q c d us vs :=
  ⟨Bk.new W _ _, hu.al _, hv.al _⟩
theorem RatV.cs {W : World} {g : Nat} {p q : Option Addr} {c d : Nat} {us vs : List Nat} (h : RatV W g p q c d us vs) : W.cell? ⟨g, 0, none⟩ = some (.bool false) ∧ W.cell? ⟨g, 1, none⟩ = some (.slice p us.length c) ∧ W.cell? ⟨g, 2, none⟩ = some (.slice q vs.length d) := ⟨h.bk.c 0, h.bk.c 1, h.bk.c 2⟩
theorem rof' (n : Nat) (w : World) (hn : n < 9223372036854775808) (hz : us = L n) (hv : vs = [1]) : Calls Tryz.prog 21 #[.int .i64 (n : Int)] w (GivesR1 w us vs) := by subst hv; exact rof n w hn hz
theorem L1 : L 1 = [1] := by decide +kernel
end Go.Proofs.BL
