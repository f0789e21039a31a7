/-
  No cell of these rows narrows 'for every input' (looked for: loops, veiled, ifaces, maps, wideKeys, modest, calm, conditions, laid).
  DERIVED. THE GIVEN ROWS OF THIS SEAT. 8 by the template 'for every input the law returns true; each argument reads behind the call as it read before'; 0 by the template 'total and deterministic' (their statements: YtepndjcncmkkkaaTotals.lean).
  GIVEN WITH THE SEED: the statements are not yours to turn. If you find one false, say at which input.
  Laid BY PROGRAM, IN A SANDBOX (cutbox-rows.mjs): the forced cells as the released guide's own fill.sh prints them over the translation fb66befce8486b1f… (all of the seat's roots in one cut). By AI agents, Wed Nov 11 2026. No macro, syntax, notation, axiom, sorry.
-/
import Derived.Test.YtepndjcncmkkkaaChecked
import GoSem.Claim
import GoSem.ClaimJoined
import GoSem.ClaimMapViews
import Derived.JoinedTies
import Derived.KernelRfl
namespace Go.Proofs.Ytepndjcncmkkkaa
/- THE CELL 'sum', in the pinned program and in every row, IS THE sha256 OF THE DUMP (.gsa) THAT YtepndjcncmkkkaaProg.lean LOADS. Nothing in Lean hashes anything: it is a label: what it is worth is what the hold of that sum in a sandbox is worth. -/
noncomputable def Try.pinned : Pinned := { name := "ytepndjcncmkkkaa", sum := "fb66befce8486b1fb91068c49550b7946c002f9e388bfec6c40f0349bb516816", checked := Try.checked }
namespace Rows
def none {H : Type} : Left H := { results := [], args := [] }

/-- 'tombolalaw03.QuoDivides': WHATEVER THE INPUT: true; the input reads as it did. -/
def quoDividesSpec : ChangeSpec := { name := "quoDivides", fn := fun _ => fun
  | [d1, d2] => { results := [.lit (.bool true)], args := [d1, d2] }
  | _ => none }
def quoDividesRow : OpenClaim := { program := "ytepndjcncmkkkaa", sum := "fb66befce8486b1fb91068c49550b7946c002f9e388bfec6c40f0349bb516816", func := "tombola/tombolalaw03.QuoDivides", spec := "quoDivides", inPlace := ["math/bits.Add64", "math/bits.Sub64"], named := ["math/bits.divideError", "math/bits.overflowError"], apart := false }
def QuoDividesSaid : Prop := quoDividesRow.holds Try.pinned (OpenSpec.ofChange quoDividesSpec)

/-- ITS FALSE NEIGHBOUR: 'it returns false'. Refute it at one input. -/
def quoDividesWrong : ChangeSpec := { name := "quoDivides", fn := fun _ => fun
  | [d1, d2] => { results := [.lit (.bool false)], args := [d1, d2] }
  | _ => none }
def QuoDividesWrongFalsely : Prop := quoDividesRow.holds Try.pinned (OpenSpec.ofChange quoDividesWrong)

/-- 'tombolalaw03.QuoCommon': WHATEVER THE INPUT: true; the input reads as it did. -/
def quoCommonSpec : ChangeSpec := { name := "quoCommon", fn := fun _ => fun
  | [d1, d2] => { results := [.lit (.bool true)], args := [d1, d2] }
  | _ => none }
def quoCommonRow : OpenClaim := { program := "ytepndjcncmkkkaa", sum := "fb66befce8486b1fb91068c49550b7946c002f9e388bfec6c40f0349bb516816", func := "tombola/tombolalaw03.QuoCommon", spec := "quoCommon", inPlace := ["math/bits.Add64", "math/bits.Sub64"], named := ["math/bits.divideError", "math/bits.overflowError"], apart := false }
def QuoCommonSaid : Prop := quoCommonRow.holds Try.pinned (OpenSpec.ofChange quoCommonSpec)

/-- ITS FALSE NEIGHBOUR: 'it returns false'. Refute it at one input. -/
def quoCommonWrong : ChangeSpec := { name := "quoCommon", fn := fun _ => fun
  | [d1, d2] => { results := [.lit (.bool false)], args := [d1, d2] }
  | _ => none }
def QuoCommonWrongFalsely : Prop := quoCommonRow.holds Try.pinned (OpenSpec.ofChange quoCommonWrong)

/-- 'tombolalaw03.QuoPowers': WHATEVER THE INPUT: true; the input reads as it did. -/
def quoPowersSpec : ChangeSpec := { name := "quoPowers", fn := fun _ => fun
  | [d1, d2] => { results := [.lit (.bool true)], args := [d1, d2] }
  | _ => none }
def quoPowersRow : OpenClaim := { program := "ytepndjcncmkkkaa", sum := "fb66befce8486b1fb91068c49550b7946c002f9e388bfec6c40f0349bb516816", func := "tombola/tombolalaw03.QuoPowers", spec := "quoPowers", inPlace := ["math/bits.Add64", "math/bits.Sub64"], named := ["math/bits.divideError", "math/bits.overflowError"], apart := false }
def QuoPowersSaid : Prop := quoPowersRow.holds Try.pinned (OpenSpec.ofChange quoPowersSpec)

/-- ITS FALSE NEIGHBOUR: 'it returns false'. Refute it at one input. -/
def quoPowersWrong : ChangeSpec := { name := "quoPowers", fn := fun _ => fun
  | [d1, d2] => { results := [.lit (.bool false)], args := [d1, d2] }
  | _ => none }
def QuoPowersWrongFalsely : Prop := quoPowersRow.holds Try.pinned (OpenSpec.ofChange quoPowersWrong)

/-- 'tombolalaw03.QuoRaised': WHATEVER THE INPUT: true; the input reads as it did. -/
def quoRaisedSpec : ChangeSpec := { name := "quoRaised", fn := fun _ => fun
  | [d1, d2, d3, d4] => { results := [.lit (.bool true)], args := [d1, d2, d3, d4] }
  | _ => none }
def quoRaisedRow : OpenClaim := { program := "ytepndjcncmkkkaa", sum := "fb66befce8486b1fb91068c49550b7946c002f9e388bfec6c40f0349bb516816", func := "tombola/tombolalaw03.QuoRaised", spec := "quoRaised", inPlace := ["math/bits.Add64", "math/bits.Sub64"], named := ["math/bits.divideError", "math/bits.overflowError"], apart := false }
def QuoRaisedSaid : Prop := quoRaisedRow.holds Try.pinned (OpenSpec.ofChange quoRaisedSpec)

/-- ITS FALSE NEIGHBOUR: 'it returns false'. Refute it at one input. -/
def quoRaisedWrong : ChangeSpec := { name := "quoRaised", fn := fun _ => fun
  | [d1, d2, d3, d4] => { results := [.lit (.bool false)], args := [d1, d2, d3, d4] }
  | _ => none }
def QuoRaisedWrongFalsely : Prop := quoRaisedRow.holds Try.pinned (OpenSpec.ofChange quoRaisedWrong)

/-- 'tombolalaw03.QuoTails': WHATEVER THE INPUT: true; the input reads as it did. -/
def quoTailsSpec : ChangeSpec := { name := "quoTails", fn := fun _ => fun
  | [d1, d2, d3, d4, d5] => { results := [.lit (.bool true)], args := [d1, d2, d3, d4, d5] }
  | _ => none }
def quoTailsRow : OpenClaim := { program := "ytepndjcncmkkkaa", sum := "fb66befce8486b1fb91068c49550b7946c002f9e388bfec6c40f0349bb516816", func := "tombola/tombolalaw03.QuoTails", spec := "quoTails", inPlace := ["math/bits.Add64", "math/bits.Sub64"], named := ["math/bits.divideError", "math/bits.overflowError"], apart := false }
def QuoTailsSaid : Prop := quoTailsRow.holds Try.pinned (OpenSpec.ofChange quoTailsSpec)

/-- ITS FALSE NEIGHBOUR: 'it returns false'. Refute it at one input. -/
def quoTailsWrong : ChangeSpec := { name := "quoTails", fn := fun _ => fun
  | [d1, d2, d3, d4, d5] => { results := [.lit (.bool false)], args := [d1, d2, d3, d4, d5] }
  | _ => none }
def QuoTailsWrongFalsely : Prop := quoTailsRow.holds Try.pinned (OpenSpec.ofChange quoTailsWrong)

/-- 'tombolalaw03.QuoDivisors': WHATEVER THE INPUT: true; the input reads as it did. -/
def quoDivisorsSpec : ChangeSpec := { name := "quoDivisors", fn := fun _ => fun
  | [d1, d2, d3] => { results := [.lit (.bool true)], args := [d1, d2, d3] }
  | _ => none }
def quoDivisorsRow : OpenClaim := { program := "ytepndjcncmkkkaa", sum := "fb66befce8486b1fb91068c49550b7946c002f9e388bfec6c40f0349bb516816", func := "tombola/tombolalaw03.QuoDivisors", spec := "quoDivisors", inPlace := ["math/bits.Add64", "math/bits.Sub64"], named := ["math/bits.divideError", "math/bits.overflowError"], apart := false }
def QuoDivisorsSaid : Prop := quoDivisorsRow.holds Try.pinned (OpenSpec.ofChange quoDivisorsSpec)

/-- ITS FALSE NEIGHBOUR: 'it returns false'. Refute it at one input. -/
def quoDivisorsWrong : ChangeSpec := { name := "quoDivisors", fn := fun _ => fun
  | [d1, d2, d3] => { results := [.lit (.bool false)], args := [d1, d2, d3] }
  | _ => none }
def QuoDivisorsWrongFalsely : Prop := quoDivisorsRow.holds Try.pinned (OpenSpec.ofChange quoDivisorsWrong)

/-- 'tombolalaw03.QuoBack': WHATEVER THE INPUT: true; the input reads as it did. -/
def quoBackSpec : ChangeSpec := { name := "quoBack", fn := fun _ => fun
  | [d1, d2, d3] => { results := [.lit (.bool true)], args := [d1, d2, d3] }
  | _ => none }
def quoBackRow : OpenClaim := { program := "ytepndjcncmkkkaa", sum := "fb66befce8486b1fb91068c49550b7946c002f9e388bfec6c40f0349bb516816", func := "tombola/tombolalaw03.QuoBack", spec := "quoBack", inPlace := ["math/bits.Add64", "math/bits.Sub64"], unfollowed := true, recurses := true, named := ["math/bits.divideError", "math/bits.overflowError"], apart := false }
def QuoBackSaid : Prop := quoBackRow.holds Try.pinned (OpenSpec.ofChange quoBackSpec)

/-- ITS FALSE NEIGHBOUR: 'it returns false'. Refute it at one input. -/
def quoBackWrong : ChangeSpec := { name := "quoBack", fn := fun _ => fun
  | [d1, d2, d3] => { results := [.lit (.bool false)], args := [d1, d2, d3] }
  | _ => none }
def QuoBackWrongFalsely : Prop := quoBackRow.holds Try.pinned (OpenSpec.ofChange quoBackWrong)

/-- 'tombolalaw03.QuoMultiples': WHATEVER THE INPUT: true; the input reads as it did. -/
def quoMultiplesSpec : ChangeSpec := { name := "quoMultiples", fn := fun _ => fun
  | [d1, d2, d3] => { results := [.lit (.bool true)], args := [d1, d2, d3] }
  | _ => none }
def quoMultiplesRow : OpenClaim := { program := "ytepndjcncmkkkaa", sum := "fb66befce8486b1fb91068c49550b7946c002f9e388bfec6c40f0349bb516816", func := "tombola/tombolalaw03.QuoMultiples", spec := "quoMultiples", inPlace := ["math/bits.Add64", "math/bits.Sub64"], unfollowed := true, recurses := true, named := ["math/bits.divideError", "math/bits.overflowError"], apart := false }
def QuoMultiplesSaid : Prop := quoMultiplesRow.holds Try.pinned (OpenSpec.ofChange quoMultiplesSpec)

/-- ITS FALSE NEIGHBOUR: 'it returns false'. Refute it at one input. -/
def quoMultiplesWrong : ChangeSpec := { name := "quoMultiples", fn := fun _ => fun
  | [d1, d2, d3] => { results := [.lit (.bool false)], args := [d1, d2, d3] }
  | _ => none }
def QuoMultiplesWrongFalsely : Prop := quoMultiplesRow.holds Try.pinned (OpenSpec.ofChange quoMultiplesWrong)

/- THE SECOND FORM. 'bulk': how many values and letters a reading holds, each counted each time it is reached (what is shared counts as often as it is met; a slice's spare places count too). A statement '..UptoSaid' is the law's where the arguments, and the package variables that the reading takes, are together of bulk at most 1048576: NARROWER than '..Said'. Prove '..Said' where nothing that the law and all that it calls make is longer than what came in: it says more and counts as full. Else prove '..UptoSaid'. A law counts once. -/
mutual
def uptoBulk {H : Type} : DataW H → Nat
  | .lit (.string bytes) => bytes.length + 1
  | .lit _ => 1
  | .nil => 1
  | .ptr d => uptoBulk d + 1
  | .slice elems spare => uptoBulkAll elems + uptoBulkAll spare + 1
  | .agg parts => uptoBulkAll parts + 1
  | .iface _ d => uptoBulk d + 1
  | .map entries => uptoBulkEntries entries + 1
  | .held _ => 1
def uptoBulkAll {H : Type} : List (DataW H) → Nat
  | [] => 0
  | d :: r => uptoBulk d + uptoBulkAll r
def uptoBulkEntries {H : Type} : List (Lit × DataW H) → Nat
  | [] => 0
  | x :: r => uptoBulkEntry x + uptoBulkEntries r
def uptoBulkEntry {H : Type} : Lit × DataW H → Nat
  | (.string bytes, d) => bytes.length + uptoBulk d + 1
  | (_, d) => uptoBulk d + 1
 end
def uptoSmall : (H : Type) → List (DataW H) → Bool := fun _ ds => decide (uptoBulkAll ds ≤ 1048576)
def OpenSpec.upto (s : _root_.Go.ChangeSpec) : _root_.Go.OpenSpec := { _root_.Go.OpenSpec.ofChange s with cond := some uptoSmall }

/-- 'tombolalaw03.QuoDivides', WHERE WHAT IT READS IS OF BULK AT MOST 1048576: true; the input reads as it did. -/
def quoDividesUptoRow : OpenClaim := { program := "ytepndjcncmkkkaa", sum := "fb66befce8486b1fb91068c49550b7946c002f9e388bfec6c40f0349bb516816", func := "tombola/tombolalaw03.QuoDivides", spec := "quoDivides", inPlace := ["math/bits.Add64", "math/bits.Sub64"], named := ["math/bits.divideError", "math/bits.overflowError"], apart := false, narrowed := true }
def QuoDividesUptoSaid : Prop := quoDividesUptoRow.holds Try.pinned (OpenSpec.upto quoDividesSpec)

/-- 'tombolalaw03.QuoCommon', WHERE WHAT IT READS IS OF BULK AT MOST 1048576: true; the input reads as it did. -/
def quoCommonUptoRow : OpenClaim := { program := "ytepndjcncmkkkaa", sum := "fb66befce8486b1fb91068c49550b7946c002f9e388bfec6c40f0349bb516816", func := "tombola/tombolalaw03.QuoCommon", spec := "quoCommon", inPlace := ["math/bits.Add64", "math/bits.Sub64"], named := ["math/bits.divideError", "math/bits.overflowError"], apart := false, narrowed := true }
def QuoCommonUptoSaid : Prop := quoCommonUptoRow.holds Try.pinned (OpenSpec.upto quoCommonSpec)

/-- 'tombolalaw03.QuoPowers', WHERE WHAT IT READS IS OF BULK AT MOST 1048576: true; the input reads as it did. -/
def quoPowersUptoRow : OpenClaim := { program := "ytepndjcncmkkkaa", sum := "fb66befce8486b1fb91068c49550b7946c002f9e388bfec6c40f0349bb516816", func := "tombola/tombolalaw03.QuoPowers", spec := "quoPowers", inPlace := ["math/bits.Add64", "math/bits.Sub64"], named := ["math/bits.divideError", "math/bits.overflowError"], apart := false, narrowed := true }
def QuoPowersUptoSaid : Prop := quoPowersUptoRow.holds Try.pinned (OpenSpec.upto quoPowersSpec)

/-- 'tombolalaw03.QuoRaised', WHERE WHAT IT READS IS OF BULK AT MOST 1048576: true; the input reads as it did. -/
def quoRaisedUptoRow : OpenClaim := { program := "ytepndjcncmkkkaa", sum := "fb66befce8486b1fb91068c49550b7946c002f9e388bfec6c40f0349bb516816", func := "tombola/tombolalaw03.QuoRaised", spec := "quoRaised", inPlace := ["math/bits.Add64", "math/bits.Sub64"], named := ["math/bits.divideError", "math/bits.overflowError"], apart := false, narrowed := true }
def QuoRaisedUptoSaid : Prop := quoRaisedUptoRow.holds Try.pinned (OpenSpec.upto quoRaisedSpec)

/-- 'tombolalaw03.QuoTails', WHERE WHAT IT READS IS OF BULK AT MOST 1048576: true; the input reads as it did. -/
def quoTailsUptoRow : OpenClaim := { program := "ytepndjcncmkkkaa", sum := "fb66befce8486b1fb91068c49550b7946c002f9e388bfec6c40f0349bb516816", func := "tombola/tombolalaw03.QuoTails", spec := "quoTails", inPlace := ["math/bits.Add64", "math/bits.Sub64"], named := ["math/bits.divideError", "math/bits.overflowError"], apart := false, narrowed := true }
def QuoTailsUptoSaid : Prop := quoTailsUptoRow.holds Try.pinned (OpenSpec.upto quoTailsSpec)

/-- 'tombolalaw03.QuoDivisors', WHERE WHAT IT READS IS OF BULK AT MOST 1048576: true; the input reads as it did. -/
def quoDivisorsUptoRow : OpenClaim := { program := "ytepndjcncmkkkaa", sum := "fb66befce8486b1fb91068c49550b7946c002f9e388bfec6c40f0349bb516816", func := "tombola/tombolalaw03.QuoDivisors", spec := "quoDivisors", inPlace := ["math/bits.Add64", "math/bits.Sub64"], named := ["math/bits.divideError", "math/bits.overflowError"], apart := false, narrowed := true }
def QuoDivisorsUptoSaid : Prop := quoDivisorsUptoRow.holds Try.pinned (OpenSpec.upto quoDivisorsSpec)

/-- 'tombolalaw03.QuoBack', WHERE WHAT IT READS IS OF BULK AT MOST 1048576: true; the input reads as it did. -/
def quoBackUptoRow : OpenClaim := { program := "ytepndjcncmkkkaa", sum := "fb66befce8486b1fb91068c49550b7946c002f9e388bfec6c40f0349bb516816", func := "tombola/tombolalaw03.QuoBack", spec := "quoBack", inPlace := ["math/bits.Add64", "math/bits.Sub64"], unfollowed := true, recurses := true, named := ["math/bits.divideError", "math/bits.overflowError"], apart := false, narrowed := true }
def QuoBackUptoSaid : Prop := quoBackUptoRow.holds Try.pinned (OpenSpec.upto quoBackSpec)

/-- 'tombolalaw03.QuoMultiples', WHERE WHAT IT READS IS OF BULK AT MOST 1048576: true; the input reads as it did. -/
def quoMultiplesUptoRow : OpenClaim := { program := "ytepndjcncmkkkaa", sum := "fb66befce8486b1fb91068c49550b7946c002f9e388bfec6c40f0349bb516816", func := "tombola/tombolalaw03.QuoMultiples", spec := "quoMultiples", inPlace := ["math/bits.Add64", "math/bits.Sub64"], unfollowed := true, recurses := true, named := ["math/bits.divideError", "math/bits.overflowError"], apart := false, narrowed := true }
def QuoMultiplesUptoSaid : Prop := quoMultiplesUptoRow.holds Try.pinned (OpenSpec.upto quoMultiplesSpec)

end Rows
end Go.Proofs.Ytepndjcncmkkkaa
