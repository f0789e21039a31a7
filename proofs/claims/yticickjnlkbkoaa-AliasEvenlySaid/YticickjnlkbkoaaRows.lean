/-
  No cell of these rows narrows 'for every input' (looked for: loops, veiled, ifaces, maps, wideKeys, modest, calm, conditions, laid).
  DERIVED. THE GIVEN ROWS OF THIS SEAT. 7 by the template 'for every input the law returns true; each argument reads behind the call as it read before'; 0 by the template 'total and deterministic' (their statements: YticickjnlkbkoaaTotals.lean).
  GIVEN WITH THE SEED: the statements are not yours to turn. If you find one false, say at which input.
  Laid BY PROGRAM, IN A SANDBOX (cutbox-rows.mjs): the forced cells as the released guide's own fill.sh prints them over the translation 69f25262897663b7… (all of the seat's roots in one cut). By AI agents, Wed Nov 11 2026. No macro, syntax, notation, axiom, sorry.
-/
import Derived.Test.YticickjnlkbkoaaChecked
import GoSem.Claim
import GoSem.ClaimJoined
import GoSem.ClaimMapViews
import Derived.JoinedTies
import Derived.KernelRfl
namespace Go.Proofs.Yticickjnlkbkoaa
/- THE CELL 'sum', in the pinned program and in every row, IS THE sha256 OF THE DUMP (.gsa) THAT YticickjnlkbkoaaProg.lean LOADS. Nothing in Lean hashes anything: it is a label: what it is worth is what the hold of that sum in a sandbox is worth. -/
noncomputable def Try.pinned : Pinned := { name := "yticickjnlkbkoaa", sum := "69f25262897663b79f594aff97a359fa11ed6b72aa850cc7221ef101080ccd60", checked := Try.checked }
namespace Rows
def none {H : Type} : Left H := { results := [], args := [] }

/-- 'tombolalaw11.AliasMakes': WHATEVER THE INPUT: true; the input reads as it did. -/
def aliasMakesSpec : ChangeSpec := { name := "aliasMakes", fn := fun _ => fun
  | [d1, d2, d3] => { results := [.lit (.bool true)], args := [d1, d2, d3] }
  | _ => none }
def aliasMakesRow : OpenClaim := { program := "yticickjnlkbkoaa", sum := "69f25262897663b79f594aff97a359fa11ed6b72aa850cc7221ef101080ccd60", func := "tombola/tombolalaw11.AliasMakes", spec := "aliasMakes", inPlace := ["math/bits.Add64", "math/bits.Sub64"], unfollowed := true, recurses := true, named := ["math/bits.divideError", "math/bits.overflowError"], apart := false }
def AliasMakesSaid : Prop := aliasMakesRow.holds Try.pinned (OpenSpec.ofChange aliasMakesSpec)

/-- ITS FALSE NEIGHBOUR: 'it returns false'. Refute it at one input. -/
def aliasMakesWrong : ChangeSpec := { name := "aliasMakes", fn := fun _ => fun
  | [d1, d2, d3] => { results := [.lit (.bool false)], args := [d1, d2, d3] }
  | _ => none }
def AliasMakesWrongFalsely : Prop := aliasMakesRow.holds Try.pinned (OpenSpec.ofChange aliasMakesWrong)

/-- 'tombolalaw11.AliasTable': WHATEVER THE INPUT: true; the input reads as it did. -/
def aliasTableSpec : ChangeSpec := { name := "aliasTable", fn := fun _ => fun
  | [d1, d2] => { results := [.lit (.bool true)], args := [d1, d2] }
  | _ => none }
def aliasTableRow : OpenClaim := { program := "yticickjnlkbkoaa", sum := "69f25262897663b79f594aff97a359fa11ed6b72aa850cc7221ef101080ccd60", func := "tombola/tombolalaw11.AliasTable", spec := "aliasTable", inPlace := ["math/bits.Add64", "math/bits.Sub64"], unfollowed := true, recurses := true, named := ["math/bits.divideError", "math/bits.overflowError"], apart := false }
def AliasTableSaid : Prop := aliasTableRow.holds Try.pinned (OpenSpec.ofChange aliasTableSpec)

/-- ITS FALSE NEIGHBOUR: 'it returns false'. Refute it at one input. -/
def aliasTableWrong : ChangeSpec := { name := "aliasTable", fn := fun _ => fun
  | [d1, d2] => { results := [.lit (.bool false)], args := [d1, d2] }
  | _ => none }
def AliasTableWrongFalsely : Prop := aliasTableRow.holds Try.pinned (OpenSpec.ofChange aliasTableWrong)

/-- 'tombolalaw11.AliasTimes': WHATEVER THE INPUT: true; the input reads as it did. -/
def aliasTimesSpec : ChangeSpec := { name := "aliasTimes", fn := fun _ => fun
  | [d1, d2] => { results := [.lit (.bool true)], args := [d1, d2] }
  | _ => none }
def aliasTimesRow : OpenClaim := { program := "yticickjnlkbkoaa", sum := "69f25262897663b79f594aff97a359fa11ed6b72aa850cc7221ef101080ccd60", func := "tombola/tombolalaw11.AliasTimes", spec := "aliasTimes", inPlace := ["math/bits.Add64", "math/bits.Sub64"], unfollowed := true, recurses := true, named := ["math/bits.divideError", "math/bits.overflowError"], apart := false }
def AliasTimesSaid : Prop := aliasTimesRow.holds Try.pinned (OpenSpec.ofChange aliasTimesSpec)

/-- ITS FALSE NEIGHBOUR: 'it returns false'. Refute it at one input. -/
def aliasTimesWrong : ChangeSpec := { name := "aliasTimes", fn := fun _ => fun
  | [d1, d2] => { results := [.lit (.bool false)], args := [d1, d2] }
  | _ => none }
def AliasTimesWrongFalsely : Prop := aliasTimesRow.holds Try.pinned (OpenSpec.ofChange aliasTimesWrong)

/-- 'tombolalaw11.AliasShares': WHATEVER THE INPUT: true; the input reads as it did. -/
def aliasSharesSpec : ChangeSpec := { name := "aliasShares", fn := fun _ => fun
  | [d] => { results := [.lit (.bool true)], args := [d] }
  | _ => none }
def aliasSharesRow : OpenClaim := { program := "yticickjnlkbkoaa", sum := "69f25262897663b79f594aff97a359fa11ed6b72aa850cc7221ef101080ccd60", func := "tombola/tombolalaw11.AliasShares", spec := "aliasShares", inPlace := ["math/bits.Add64", "math/bits.Sub64"], unfollowed := true, recurses := true, named := ["math/bits.divideError", "math/bits.overflowError"], apart := false }
def AliasSharesSaid : Prop := aliasSharesRow.holds Try.pinned (OpenSpec.ofChange aliasSharesSpec)

/-- ITS FALSE NEIGHBOUR: 'it returns false'. Refute it at one input. -/
def aliasSharesWrong : ChangeSpec := { name := "aliasShares", fn := fun _ => fun
  | [d] => { results := [.lit (.bool false)], args := [d] }
  | _ => none }
def AliasSharesWrongFalsely : Prop := aliasSharesRow.holds Try.pinned (OpenSpec.ofChange aliasSharesWrong)

/-- 'tombolalaw11.AliasDraws': WHATEVER THE INPUT: true; the input reads as it did. -/
def aliasDrawsSpec : ChangeSpec := { name := "aliasDraws", fn := fun _ => fun
  | [d1, d2, d3] => { results := [.lit (.bool true)], args := [d1, d2, d3] }
  | _ => none }
def aliasDrawsRow : OpenClaim := { program := "yticickjnlkbkoaa", sum := "69f25262897663b79f594aff97a359fa11ed6b72aa850cc7221ef101080ccd60", func := "tombola/tombolalaw11.AliasDraws", spec := "aliasDraws", inPlace := ["math/bits.Add64", "math/bits.Sub64"], unfollowed := true, recurses := true, named := ["math/bits.divideError", "math/bits.overflowError"], apart := false }
def AliasDrawsSaid : Prop := aliasDrawsRow.holds Try.pinned (OpenSpec.ofChange aliasDrawsSpec)

/-- ITS FALSE NEIGHBOUR: 'it returns false'. Refute it at one input. -/
def aliasDrawsWrong : ChangeSpec := { name := "aliasDraws", fn := fun _ => fun
  | [d1, d2, d3] => { results := [.lit (.bool false)], args := [d1, d2, d3] }
  | _ => none }
def AliasDrawsWrongFalsely : Prop := aliasDrawsRow.holds Try.pinned (OpenSpec.ofChange aliasDrawsWrong)

/-- 'tombolalaw11.AliasTwo': WHATEVER THE INPUT: true; the input reads as it did. -/
def aliasTwoSpec : ChangeSpec := { name := "aliasTwo", fn := fun _ => fun
  | [d1, d2, d3] => { results := [.lit (.bool true)], args := [d1, d2, d3] }
  | _ => none }
def aliasTwoRow : OpenClaim := { program := "yticickjnlkbkoaa", sum := "69f25262897663b79f594aff97a359fa11ed6b72aa850cc7221ef101080ccd60", func := "tombola/tombolalaw11.AliasTwo", spec := "aliasTwo", inPlace := ["math/bits.Add64", "math/bits.Sub64"], unfollowed := true, recurses := true, named := ["math/bits.divideError", "math/bits.overflowError"], apart := false }
def AliasTwoSaid : Prop := aliasTwoRow.holds Try.pinned (OpenSpec.ofChange aliasTwoSpec)

/-- ITS FALSE NEIGHBOUR: 'it returns false'. Refute it at one input. -/
def aliasTwoWrong : ChangeSpec := { name := "aliasTwo", fn := fun _ => fun
  | [d1, d2, d3] => { results := [.lit (.bool false)], args := [d1, d2, d3] }
  | _ => none }
def AliasTwoWrongFalsely : Prop := aliasTwoRow.holds Try.pinned (OpenSpec.ofChange aliasTwoWrong)

/-- 'tombolalaw11.AliasEvenly': WHATEVER THE INPUT: true; the input reads as it did. -/
def aliasEvenlySpec : ChangeSpec := { name := "aliasEvenly", fn := fun _ => fun
  | [d1, d2] => { results := [.lit (.bool true)], args := [d1, d2] }
  | _ => none }
def aliasEvenlyRow : OpenClaim := { program := "yticickjnlkbkoaa", sum := "69f25262897663b79f594aff97a359fa11ed6b72aa850cc7221ef101080ccd60", func := "tombola/tombolalaw11.AliasEvenly", spec := "aliasEvenly", inPlace := ["math/bits.Add64", "math/bits.Sub64"], unfollowed := true, recurses := true, named := ["math/bits.divideError", "math/bits.overflowError"], apart := false }
def AliasEvenlySaid : Prop := aliasEvenlyRow.holds Try.pinned (OpenSpec.ofChange aliasEvenlySpec)

/-- ITS FALSE NEIGHBOUR: 'it returns false'. Refute it at one input. -/
def aliasEvenlyWrong : ChangeSpec := { name := "aliasEvenly", fn := fun _ => fun
  | [d1, d2] => { results := [.lit (.bool false)], args := [d1, d2] }
  | _ => none }
def AliasEvenlyWrongFalsely : Prop := aliasEvenlyRow.holds Try.pinned (OpenSpec.ofChange aliasEvenlyWrong)

/- THE SECOND FORM. 'bulk': how many values and letters a reading holds, each counted each time it is reached (what is shared counts as often as it is met; a slice's spare places count too). A statement '..UptoSaid' is the law's where the arguments, and the package variables that the reading takes, are together of bulk at most 1048576: NARROWER than '..Said'. Prove '..Said' where nothing that the law and all that it calls make is longer than what came in: it says more and counts as full. Else prove '..UptoSaid'. A law counts once. -/
mutual
def uptoBulk {H : Type} : DataW H → Nat
  | .lit (.string bytes) => bytes.length + 1
  | .lit _ => 1
  | .nil => 1
  | .ptr d => uptoBulk d + 1
  | .slice elems spare => uptoBulkAll elems + uptoBulkAll spare + 1
  | .agg parts => uptoBulkAll parts + 1
  | .iface _ d => uptoBulk d + 1
  | .map entries => uptoBulkEntries entries + 1
  | .held _ => 1
def uptoBulkAll {H : Type} : List (DataW H) → Nat
  | [] => 0
  | d :: r => uptoBulk d + uptoBulkAll r
def uptoBulkEntries {H : Type} : List (Lit × DataW H) → Nat
  | [] => 0
  | x :: r => uptoBulkEntry x + uptoBulkEntries r
def uptoBulkEntry {H : Type} : Lit × DataW H → Nat
  | (.string bytes, d) => bytes.length + uptoBulk d + 1
  | (_, d) => uptoBulk d + 1
 end
def uptoSmall : (H : Type) → List (DataW H) → Bool := fun _ ds => decide (uptoBulkAll ds ≤ 1048576)
def OpenSpec.upto (s : _root_.Go.ChangeSpec) : _root_.Go.OpenSpec := { _root_.Go.OpenSpec.ofChange s with cond := some uptoSmall }

/-- 'tombolalaw11.AliasMakes', WHERE WHAT IT READS IS OF BULK AT MOST 1048576: true; the input reads as it did. -/
def aliasMakesUptoRow : OpenClaim := { program := "yticickjnlkbkoaa", sum := "69f25262897663b79f594aff97a359fa11ed6b72aa850cc7221ef101080ccd60", func := "tombola/tombolalaw11.AliasMakes", spec := "aliasMakes", inPlace := ["math/bits.Add64", "math/bits.Sub64"], unfollowed := true, recurses := true, named := ["math/bits.divideError", "math/bits.overflowError"], apart := false, narrowed := true }
def AliasMakesUptoSaid : Prop := aliasMakesUptoRow.holds Try.pinned (OpenSpec.upto aliasMakesSpec)

/-- 'tombolalaw11.AliasTable', WHERE WHAT IT READS IS OF BULK AT MOST 1048576: true; the input reads as it did. -/
def aliasTableUptoRow : OpenClaim := { program := "yticickjnlkbkoaa", sum := "69f25262897663b79f594aff97a359fa11ed6b72aa850cc7221ef101080ccd60", func := "tombola/tombolalaw11.AliasTable", spec := "aliasTable", inPlace := ["math/bits.Add64", "math/bits.Sub64"], unfollowed := true, recurses := true, named := ["math/bits.divideError", "math/bits.overflowError"], apart := false, narrowed := true }
def AliasTableUptoSaid : Prop := aliasTableUptoRow.holds Try.pinned (OpenSpec.upto aliasTableSpec)

/-- 'tombolalaw11.AliasTimes', WHERE WHAT IT READS IS OF BULK AT MOST 1048576: true; the input reads as it did. -/
def aliasTimesUptoRow : OpenClaim := { program := "yticickjnlkbkoaa", sum := "69f25262897663b79f594aff97a359fa11ed6b72aa850cc7221ef101080ccd60", func := "tombola/tombolalaw11.AliasTimes", spec := "aliasTimes", inPlace := ["math/bits.Add64", "math/bits.Sub64"], unfollowed := true, recurses := true, named := ["math/bits.divideError", "math/bits.overflowError"], apart := false, narrowed := true }
def AliasTimesUptoSaid : Prop := aliasTimesUptoRow.holds Try.pinned (OpenSpec.upto aliasTimesSpec)

/-- 'tombolalaw11.AliasShares', WHERE WHAT IT READS IS OF BULK AT MOST 1048576: true; the input reads as it did. -/
def aliasSharesUptoRow : OpenClaim := { program := "yticickjnlkbkoaa", sum := "69f25262897663b79f594aff97a359fa11ed6b72aa850cc7221ef101080ccd60", func := "tombola/tombolalaw11.AliasShares", spec := "aliasShares", inPlace := ["math/bits.Add64", "math/bits.Sub64"], unfollowed := true, recurses := true, named := ["math/bits.divideError", "math/bits.overflowError"], apart := false, narrowed := true }
def AliasSharesUptoSaid : Prop := aliasSharesUptoRow.holds Try.pinned (OpenSpec.upto aliasSharesSpec)

/-- 'tombolalaw11.AliasDraws', WHERE WHAT IT READS IS OF BULK AT MOST 1048576: true; the input reads as it did. -/
def aliasDrawsUptoRow : OpenClaim := { program := "yticickjnlkbkoaa", sum := "69f25262897663b79f594aff97a359fa11ed6b72aa850cc7221ef101080ccd60", func := "tombola/tombolalaw11.AliasDraws", spec := "aliasDraws", inPlace := ["math/bits.Add64", "math/bits.Sub64"], unfollowed := true, recurses := true, named := ["math/bits.divideError", "math/bits.overflowError"], apart := false, narrowed := true }
def AliasDrawsUptoSaid : Prop := aliasDrawsUptoRow.holds Try.pinned (OpenSpec.upto aliasDrawsSpec)

/-- 'tombolalaw11.AliasTwo', WHERE WHAT IT READS IS OF BULK AT MOST 1048576: true; the input reads as it did. -/
def aliasTwoUptoRow : OpenClaim := { program := "yticickjnlkbkoaa", sum := "69f25262897663b79f594aff97a359fa11ed6b72aa850cc7221ef101080ccd60", func := "tombola/tombolalaw11.AliasTwo", spec := "aliasTwo", inPlace := ["math/bits.Add64", "math/bits.Sub64"], unfollowed := true, recurses := true, named := ["math/bits.divideError", "math/bits.overflowError"], apart := false, narrowed := true }
def AliasTwoUptoSaid : Prop := aliasTwoUptoRow.holds Try.pinned (OpenSpec.upto aliasTwoSpec)

/-- 'tombolalaw11.AliasEvenly', WHERE WHAT IT READS IS OF BULK AT MOST 1048576: true; the input reads as it did. -/
def aliasEvenlyUptoRow : OpenClaim := { program := "yticickjnlkbkoaa", sum := "69f25262897663b79f594aff97a359fa11ed6b72aa850cc7221ef101080ccd60", func := "tombola/tombolalaw11.AliasEvenly", spec := "aliasEvenly", inPlace := ["math/bits.Add64", "math/bits.Sub64"], unfollowed := true, recurses := true, named := ["math/bits.divideError", "math/bits.overflowError"], apart := false, narrowed := true }
def AliasEvenlyUptoSaid : Prop := aliasEvenlyUptoRow.holds Try.pinned (OpenSpec.upto aliasEvenlySpec)

end Rows
end Go.Proofs.Yticickjnlkbkoaa
