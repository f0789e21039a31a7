/-
  No cell of these rows narrows 'for every input' (looked for: loops, veiled, ifaces, maps, wideKeys, modest, calm, conditions, laid).
  DERIVED. THE GIVEN ROWS OF THIS SEAT. 8 by the template 'for every input the law returns true; each argument reads behind the call as it read before'; 0 by the template 'total and deterministic' (their statements: YtelanfafgcnpmaaTotals.lean).
  GIVEN WITH THE SEED: the statements are not yours to turn. If you find one false, say at which input.
  Laid BY PROGRAM, IN A SANDBOX (cutbox-rows.mjs): the forced cells as the released guide's own fill.sh prints them over the translation fcf5444e6e16d6ea… (all of the seat's roots in one cut). By AI agents, Wed Nov 11 2026. No macro, syntax, notation, axiom, sorry.
-/
import Derived.Test.YtelanfafgcnpmaaChecked
import GoSem.Claim
import GoSem.ClaimJoined
import GoSem.ClaimMapViews
import Derived.JoinedTies
import Derived.KernelRfl
namespace Go.Proofs.Ytelanfafgcnpmaa
/- THE CELL 'sum', in the pinned program and in every row, IS THE sha256 OF THE DUMP (.gsa) THAT YtelanfafgcnpmaaProg.lean LOADS. Nothing in Lean hashes anything: it is a label: what it is worth is what the hold of that sum in a sandbox is worth. -/
noncomputable def Try.pinned : Pinned := { name := "ytelanfafgcnpmaa", sum := "fcf5444e6e16d6ea965df71f3101e910504bae18a59f40943606640a5f0c3759", checked := Try.checked }
namespace Rows
def none {H : Type} : Left H := { results := [], args := [] }

/-- 'tombolalaw09.BelowCosts': WHATEVER THE INPUT: true; the input reads as it did. -/
def belowCostsSpec : ChangeSpec := { name := "belowCosts", fn := fun _ => fun
  | [d] => { results := [.lit (.bool true)], args := [d] }
  | _ => none }
def belowCostsRow : OpenClaim := { program := "ytelanfafgcnpmaa", sum := "fcf5444e6e16d6ea965df71f3101e910504bae18a59f40943606640a5f0c3759", func := "tombola/tombolalaw09.BelowCosts", spec := "belowCosts", inPlace := ["math/bits.Add64", "math/bits.Sub64"], unfollowed := true, recurses := true, named := ["math/bits.divideError", "math/bits.overflowError"], apart := false }
def BelowCostsSaid : Prop := belowCostsRow.holds Try.pinned (OpenSpec.ofChange belowCostsSpec)

/-- ITS FALSE NEIGHBOUR: 'it returns false'. Refute it at one input. -/
def belowCostsWrong : ChangeSpec := { name := "belowCosts", fn := fun _ => fun
  | [d] => { results := [.lit (.bool false)], args := [d] }
  | _ => none }
def BelowCostsWrongFalsely : Prop := belowCostsRow.holds Try.pinned (OpenSpec.ofChange belowCostsWrong)

/-- 'tombolalaw09.BelowFront': WHATEVER THE INPUT: true; the input reads as it did. -/
def belowFrontSpec : ChangeSpec := { name := "belowFront", fn := fun _ => fun
  | [d1, d2, d3, d4] => { results := [.lit (.bool true)], args := [d1, d2, d3, d4] }
  | _ => none }
def belowFrontRow : OpenClaim := { program := "ytelanfafgcnpmaa", sum := "fcf5444e6e16d6ea965df71f3101e910504bae18a59f40943606640a5f0c3759", func := "tombola/tombolalaw09.BelowFront", spec := "belowFront", inPlace := ["math/bits.Add64", "math/bits.Sub64"], unfollowed := true, recurses := true, named := ["math/bits.divideError", "math/bits.overflowError"], apart := false }
def BelowFrontSaid : Prop := belowFrontRow.holds Try.pinned (OpenSpec.ofChange belowFrontSpec)

/-- ITS FALSE NEIGHBOUR: 'it returns false'. Refute it at one input. -/
def belowFrontWrong : ChangeSpec := { name := "belowFront", fn := fun _ => fun
  | [d1, d2, d3, d4] => { results := [.lit (.bool false)], args := [d1, d2, d3, d4] }
  | _ => none }
def BelowFrontWrongFalsely : Prop := belowFrontRow.holds Try.pinned (OpenSpec.ofChange belowFrontWrong)

/-- 'tombolalaw09.BelowDraws': WHATEVER THE INPUT: true; the input reads as it did. -/
def belowDrawsSpec : ChangeSpec := { name := "belowDraws", fn := fun _ => fun
  | [d1, d2] => { results := [.lit (.bool true)], args := [d1, d2] }
  | _ => none }
def belowDrawsRow : OpenClaim := { program := "ytelanfafgcnpmaa", sum := "fcf5444e6e16d6ea965df71f3101e910504bae18a59f40943606640a5f0c3759", func := "tombola/tombolalaw09.BelowDraws", spec := "belowDraws", inPlace := ["math/bits.Add64", "math/bits.Sub64"], unfollowed := true, recurses := true, named := ["math/bits.divideError", "math/bits.overflowError"], apart := false }
def BelowDrawsSaid : Prop := belowDrawsRow.holds Try.pinned (OpenSpec.ofChange belowDrawsSpec)

/-- ITS FALSE NEIGHBOUR: 'it returns false'. Refute it at one input. -/
def belowDrawsWrong : ChangeSpec := { name := "belowDraws", fn := fun _ => fun
  | [d1, d2] => { results := [.lit (.bool false)], args := [d1, d2] }
  | _ => none }
def BelowDrawsWrongFalsely : Prop := belowDrawsRow.holds Try.pinned (OpenSpec.ofChange belowDrawsWrong)

/-- 'tombolalaw09.BelowNames': WHATEVER THE INPUT: true; the input reads as it did. -/
def belowNamesSpec : ChangeSpec := { name := "belowNames", fn := fun _ => fun
  | [] => { results := [.lit (.bool true)], args := [] }
  | _ => none }
def belowNamesRow : OpenClaim := { program := "ytelanfafgcnpmaa", sum := "fcf5444e6e16d6ea965df71f3101e910504bae18a59f40943606640a5f0c3759", func := "tombola/tombolalaw09.BelowNames", spec := "belowNames", inPlace := ["math/bits.Add64", "math/bits.Sub64"], unfollowed := true, recurses := true, named := ["math/bits.divideError", "math/bits.overflowError"], apart := false }
def BelowNamesSaid : Prop := belowNamesRow.holds Try.pinned (OpenSpec.ofChange belowNamesSpec)

/-- ITS FALSE NEIGHBOUR: 'it returns false'. Refute it at one input. -/
def belowNamesWrong : ChangeSpec := { name := "belowNames", fn := fun _ => fun
  | [] => { results := [.lit (.bool false)], args := [] }
  | _ => none }
def BelowNamesWrongFalsely : Prop := belowNamesRow.holds Try.pinned (OpenSpec.ofChange belowNamesWrong)

/-- 'tombolalaw09.BelowTries': WHATEVER THE INPUT: true; the input reads as it did. -/
def belowTriesSpec : ChangeSpec := { name := "belowTries", fn := fun _ => fun
  | [d1, d2] => { results := [.lit (.bool true)], args := [d1, d2] }
  | _ => none }
def belowTriesRow : OpenClaim := { program := "ytelanfafgcnpmaa", sum := "fcf5444e6e16d6ea965df71f3101e910504bae18a59f40943606640a5f0c3759", func := "tombola/tombolalaw09.BelowTries", spec := "belowTries", inPlace := ["math/bits.Add64", "math/bits.Sub64"], unfollowed := true, recurses := true, named := ["math/bits.divideError", "math/bits.overflowError"], apart := false }
def BelowTriesSaid : Prop := belowTriesRow.holds Try.pinned (OpenSpec.ofChange belowTriesSpec)

/-- ITS FALSE NEIGHBOUR: 'it returns false'. Refute it at one input. -/
def belowTriesWrong : ChangeSpec := { name := "belowTries", fn := fun _ => fun
  | [d1, d2] => { results := [.lit (.bool false)], args := [d1, d2] }
  | _ => none }
def BelowTriesWrongFalsely : Prop := belowTriesRow.holds Try.pinned (OpenSpec.ofChange belowTriesWrong)

/-- 'tombolalaw09.BelowShares': WHATEVER THE INPUT: true; the input reads as it did. -/
def belowSharesSpec : ChangeSpec := { name := "belowShares", fn := fun _ => fun
  | [d1, d2] => { results := [.lit (.bool true)], args := [d1, d2] }
  | _ => none }
def belowSharesRow : OpenClaim := { program := "ytelanfafgcnpmaa", sum := "fcf5444e6e16d6ea965df71f3101e910504bae18a59f40943606640a5f0c3759", func := "tombola/tombolalaw09.BelowShares", spec := "belowShares", inPlace := ["math/bits.Add64", "math/bits.Sub64"], unfollowed := true, recurses := true, named := ["math/bits.divideError", "math/bits.overflowError"], apart := false }
def BelowSharesSaid : Prop := belowSharesRow.holds Try.pinned (OpenSpec.ofChange belowSharesSpec)

/-- ITS FALSE NEIGHBOUR: 'it returns false'. Refute it at one input. -/
def belowSharesWrong : ChangeSpec := { name := "belowShares", fn := fun _ => fun
  | [d1, d2] => { results := [.lit (.bool false)], args := [d1, d2] }
  | _ => none }
def BelowSharesWrongFalsely : Prop := belowSharesRow.holds Try.pinned (OpenSpec.ofChange belowSharesWrong)

/-- 'tombolalaw09.BelowMean': WHATEVER THE INPUT: true; the input reads as it did. -/
def belowMeanSpec : ChangeSpec := { name := "belowMean", fn := fun _ => fun
  | [d1, d2] => { results := [.lit (.bool true)], args := [d1, d2] }
  | _ => none }
def belowMeanRow : OpenClaim := { program := "ytelanfafgcnpmaa", sum := "fcf5444e6e16d6ea965df71f3101e910504bae18a59f40943606640a5f0c3759", func := "tombola/tombolalaw09.BelowMean", spec := "belowMean", inPlace := ["math/bits.Add64", "math/bits.Sub64"], unfollowed := true, recurses := true, named := ["math/bits.divideError", "math/bits.overflowError"], apart := false }
def BelowMeanSaid : Prop := belowMeanRow.holds Try.pinned (OpenSpec.ofChange belowMeanSpec)

/-- ITS FALSE NEIGHBOUR: 'it returns false'. Refute it at one input. -/
def belowMeanWrong : ChangeSpec := { name := "belowMean", fn := fun _ => fun
  | [d1, d2] => { results := [.lit (.bool false)], args := [d1, d2] }
  | _ => none }
def BelowMeanWrongFalsely : Prop := belowMeanRow.holds Try.pinned (OpenSpec.ofChange belowMeanWrong)

/-- 'tombolalaw09.BelowRenew': WHATEVER THE INPUT: true; the input reads as it did. -/
def belowRenewSpec : ChangeSpec := { name := "belowRenew", fn := fun _ => fun
  | [d] => { results := [.lit (.bool true)], args := [d] }
  | _ => none }
def belowRenewRow : OpenClaim := { program := "ytelanfafgcnpmaa", sum := "fcf5444e6e16d6ea965df71f3101e910504bae18a59f40943606640a5f0c3759", func := "tombola/tombolalaw09.BelowRenew", spec := "belowRenew", inPlace := ["math/bits.Add64", "math/bits.Sub64"], unfollowed := true, recurses := true, named := ["math/bits.divideError", "math/bits.overflowError"], apart := false }
def BelowRenewSaid : Prop := belowRenewRow.holds Try.pinned (OpenSpec.ofChange belowRenewSpec)

/-- ITS FALSE NEIGHBOUR: 'it returns false'. Refute it at one input. -/
def belowRenewWrong : ChangeSpec := { name := "belowRenew", fn := fun _ => fun
  | [d] => { results := [.lit (.bool false)], args := [d] }
  | _ => none }
def BelowRenewWrongFalsely : Prop := belowRenewRow.holds Try.pinned (OpenSpec.ofChange belowRenewWrong)

/- THE SECOND FORM. 'bulk': how many values and letters a reading holds, each counted each time it is reached (what is shared counts as often as it is met; a slice's spare places count too). A statement '..UptoSaid' is the law's where the arguments, and the package variables that the reading takes, are together of bulk at most 1048576: NARROWER than '..Said'. Prove '..Said' where nothing that the law and all that it calls make is longer than what came in: it says more and counts as full. Else prove '..UptoSaid'. A law counts once. -/
mutual
def uptoBulk {H : Type} : DataW H → Nat
  | .lit (.string bytes) => bytes.length + 1
  | .lit _ => 1
  | .nil => 1
  | .ptr d => uptoBulk d + 1
  | .slice elems spare => uptoBulkAll elems + uptoBulkAll spare + 1
  | .agg parts => uptoBulkAll parts + 1
  | .iface _ d => uptoBulk d + 1
  | .map entries => uptoBulkEntries entries + 1
  | .held _ => 1
def uptoBulkAll {H : Type} : List (DataW H) → Nat
  | [] => 0
  | d :: r => uptoBulk d + uptoBulkAll r
def uptoBulkEntries {H : Type} : List (Lit × DataW H) → Nat
  | [] => 0
  | x :: r => uptoBulkEntry x + uptoBulkEntries r
def uptoBulkEntry {H : Type} : Lit × DataW H → Nat
  | (.string bytes, d) => bytes.length + uptoBulk d + 1
  | (_, d) => uptoBulk d + 1
 end
def uptoSmall : (H : Type) → List (DataW H) → Bool := fun _ ds => decide (uptoBulkAll ds ≤ 1048576)
def OpenSpec.upto (s : _root_.Go.ChangeSpec) : _root_.Go.OpenSpec := { _root_.Go.OpenSpec.ofChange s with cond := some uptoSmall }

/-- 'tombolalaw09.BelowCosts', WHERE WHAT IT READS IS OF BULK AT MOST 1048576: true; the input reads as it did. -/
def belowCostsUptoRow : OpenClaim := { program := "ytelanfafgcnpmaa", sum := "fcf5444e6e16d6ea965df71f3101e910504bae18a59f40943606640a5f0c3759", func := "tombola/tombolalaw09.BelowCosts", spec := "belowCosts", inPlace := ["math/bits.Add64", "math/bits.Sub64"], unfollowed := true, recurses := true, named := ["math/bits.divideError", "math/bits.overflowError"], apart := false, narrowed := true }
def BelowCostsUptoSaid : Prop := belowCostsUptoRow.holds Try.pinned (OpenSpec.upto belowCostsSpec)

/-- 'tombolalaw09.BelowFront', WHERE WHAT IT READS IS OF BULK AT MOST 1048576: true; the input reads as it did. -/
def belowFrontUptoRow : OpenClaim := { program := "ytelanfafgcnpmaa", sum := "fcf5444e6e16d6ea965df71f3101e910504bae18a59f40943606640a5f0c3759", func := "tombola/tombolalaw09.BelowFront", spec := "belowFront", inPlace := ["math/bits.Add64", "math/bits.Sub64"], unfollowed := true, recurses := true, named := ["math/bits.divideError", "math/bits.overflowError"], apart := false, narrowed := true }
def BelowFrontUptoSaid : Prop := belowFrontUptoRow.holds Try.pinned (OpenSpec.upto belowFrontSpec)

/-- 'tombolalaw09.BelowDraws', WHERE WHAT IT READS IS OF BULK AT MOST 1048576: true; the input reads as it did. -/
def belowDrawsUptoRow : OpenClaim := { program := "ytelanfafgcnpmaa", sum := "fcf5444e6e16d6ea965df71f3101e910504bae18a59f40943606640a5f0c3759", func := "tombola/tombolalaw09.BelowDraws", spec := "belowDraws", inPlace := ["math/bits.Add64", "math/bits.Sub64"], unfollowed := true, recurses := true, named := ["math/bits.divideError", "math/bits.overflowError"], apart := false, narrowed := true }
def BelowDrawsUptoSaid : Prop := belowDrawsUptoRow.holds Try.pinned (OpenSpec.upto belowDrawsSpec)

/-- 'tombolalaw09.BelowNames', WHERE WHAT IT READS IS OF BULK AT MOST 1048576: true; the input reads as it did. -/
def belowNamesUptoRow : OpenClaim := { program := "ytelanfafgcnpmaa", sum := "fcf5444e6e16d6ea965df71f3101e910504bae18a59f40943606640a5f0c3759", func := "tombola/tombolalaw09.BelowNames", spec := "belowNames", inPlace := ["math/bits.Add64", "math/bits.Sub64"], unfollowed := true, recurses := true, named := ["math/bits.divideError", "math/bits.overflowError"], apart := false, narrowed := true }
def BelowNamesUptoSaid : Prop := belowNamesUptoRow.holds Try.pinned (OpenSpec.upto belowNamesSpec)

/-- 'tombolalaw09.BelowTries', WHERE WHAT IT READS IS OF BULK AT MOST 1048576: true; the input reads as it did. -/
def belowTriesUptoRow : OpenClaim := { program := "ytelanfafgcnpmaa", sum := "fcf5444e6e16d6ea965df71f3101e910504bae18a59f40943606640a5f0c3759", func := "tombola/tombolalaw09.BelowTries", spec := "belowTries", inPlace := ["math/bits.Add64", "math/bits.Sub64"], unfollowed := true, recurses := true, named := ["math/bits.divideError", "math/bits.overflowError"], apart := false, narrowed := true }
def BelowTriesUptoSaid : Prop := belowTriesUptoRow.holds Try.pinned (OpenSpec.upto belowTriesSpec)

/-- 'tombolalaw09.BelowShares', WHERE WHAT IT READS IS OF BULK AT MOST 1048576: true; the input reads as it did. -/
def belowSharesUptoRow : OpenClaim := { program := "ytelanfafgcnpmaa", sum := "fcf5444e6e16d6ea965df71f3101e910504bae18a59f40943606640a5f0c3759", func := "tombola/tombolalaw09.BelowShares", spec := "belowShares", inPlace := ["math/bits.Add64", "math/bits.Sub64"], unfollowed := true, recurses := true, named := ["math/bits.divideError", "math/bits.overflowError"], apart := false, narrowed := true }
def BelowSharesUptoSaid : Prop := belowSharesUptoRow.holds Try.pinned (OpenSpec.upto belowSharesSpec)

/-- 'tombolalaw09.BelowMean', WHERE WHAT IT READS IS OF BULK AT MOST 1048576: true; the input reads as it did. -/
def belowMeanUptoRow : OpenClaim := { program := "ytelanfafgcnpmaa", sum := "fcf5444e6e16d6ea965df71f3101e910504bae18a59f40943606640a5f0c3759", func := "tombola/tombolalaw09.BelowMean", spec := "belowMean", inPlace := ["math/bits.Add64", "math/bits.Sub64"], unfollowed := true, recurses := true, named := ["math/bits.divideError", "math/bits.overflowError"], apart := false, narrowed := true }
def BelowMeanUptoSaid : Prop := belowMeanUptoRow.holds Try.pinned (OpenSpec.upto belowMeanSpec)

/-- 'tombolalaw09.BelowRenew', WHERE WHAT IT READS IS OF BULK AT MOST 1048576: true; the input reads as it did. -/
def belowRenewUptoRow : OpenClaim := { program := "ytelanfafgcnpmaa", sum := "fcf5444e6e16d6ea965df71f3101e910504bae18a59f40943606640a5f0c3759", func := "tombola/tombolalaw09.BelowRenew", spec := "belowRenew", inPlace := ["math/bits.Add64", "math/bits.Sub64"], unfollowed := true, recurses := true, named := ["math/bits.divideError", "math/bits.overflowError"], apart := false, narrowed := true }
def BelowRenewUptoSaid : Prop := belowRenewUptoRow.holds Try.pinned (OpenSpec.upto belowRenewSpec)

end Rows
end Go.Proofs.Ytelanfafgcnpmaa
