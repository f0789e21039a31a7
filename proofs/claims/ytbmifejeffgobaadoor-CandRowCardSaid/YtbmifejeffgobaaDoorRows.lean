/-
  NARROWER THAN 'FOR EVERY INPUT', by the rows' own cells (each row's printed sentence says how): CandTells: laid · CandNames: laid · CandBits: laid · CandRow: laid · CandLess: laid · CandBelow: laid.
  DERIVED. THE GIVEN ROWS OF THIS SEAT. 6 by the template 'for every input the law returns true; each argument reads behind the call as it read before'; 0 by the template 'total and deterministic' (their statements: YtbmifejeffgobaaDoorTotals.lean).
  GIVEN WITH THE SEED: the statements are not yours to turn. If you find one false, say at which input.
  Laid BY PROGRAM, IN A SANDBOX (cutbox-rows.mjs): the forced cells as the released guide's own fill.sh prints them over the translation b0d33424362cc13f… (all of the seat's roots in one cut). By AI agents, Wed Nov 11 2026. No macro, syntax, notation, axiom, sorry.
-/
import Derived.Test.YtbmifejeffgobaaDoorChecked
import GoSem.Claim
import GoSem.ClaimJoined
import GoSem.ClaimMapViews
import Derived.JoinedTies
import Derived.KernelRfl
namespace Go.Proofs.YtbmifejeffgobaaDoor
/- THE CELL 'sum', in the pinned program and in every row, IS THE sha256 OF THE DUMP (.gsa) THAT YtbmifejeffgobaaDoorProg.lean LOADS. Nothing in Lean hashes anything: it is a label: what it is worth is what the hold of that sum in a sandbox is worth. -/
noncomputable def Tryd.pinned : Pinned := { name := "ytbmifejeffgobaadoor", sum := "b0d33424362cc13f3d7bd11ebea23b8d8848f00e57d4ec6629ecd0bc54699dfb", checked := Tryd.checked }
namespace Rows
def none {H : Type} : Left H := { results := [], args := [] }

/- WHAT THE LISTED PACKAGE-LEVEL VARIABLES READ AS WHEN THE CALL BEGINS. Each datum BY PROGRAM (the guide's laid-datum.mjs) off the statement by which the dump's own 'gosem.cut.vars' lays the variable. In a bare row this is a premise. The card (YtbmifejeffgobaaDoorCards.lean) ties it to the program's text. -/
def laid_tombola_cand_widths {H : Type} : DataW H := .agg [.lit (.int .i64 8), .lit (.int .i64 4), .lit (.int .i64 2), .lit (.int .i64 1)]

/-- 'tombolalaw30.CandTells': WHATEVER THE INPUT: true; the input reads as it did. -/
def candTellsSpec : ChangeSpec := { name := "candTells", fn := fun _ => fun
  | [d] => { results := [.lit (.bool true)], args := [d] }
  | _ => none }
def candTellsRow : OpenClaim := { program := "ytbmifejeffgobaadoor", sum := "b0d33424362cc13f3d7bd11ebea23b8d8848f00e57d4ec6629ecd0bc54699dfb", func := "tombola/tombolalaw30.CandTells", spec := "candTells", inPlace := ["internal/abi.NoEscape", "internal/bytealg.MakeNoZero"], unfollowed := true, recurses := true, named := ["tombola/cand.widths"], apart := false, laid := [("tombola/cand.widths", laid_tombola_cand_widths)] }
def CandTellsSaid : Prop := candTellsRow.holds Tryd.pinned (OpenSpec.ofChange candTellsSpec)

/-- ITS FALSE NEIGHBOUR: 'it returns false'. Refute it at one input. -/
def candTellsWrong : ChangeSpec := { name := "candTells", fn := fun _ => fun
  | [d] => { results := [.lit (.bool false)], args := [d] }
  | _ => none }
def CandTellsWrongFalsely : Prop := candTellsRow.holds Tryd.pinned (OpenSpec.ofChange candTellsWrong)

/-- 'tombolalaw30.CandNames': WHATEVER THE INPUT: true; the input reads as it did. -/
def candNamesSpec : ChangeSpec := { name := "candNames", fn := fun _ => fun
  | [] => { results := [.lit (.bool true)], args := [] }
  | _ => none }
def candNamesRow : OpenClaim := { program := "ytbmifejeffgobaadoor", sum := "b0d33424362cc13f3d7bd11ebea23b8d8848f00e57d4ec6629ecd0bc54699dfb", func := "tombola/tombolalaw30.CandNames", spec := "candNames", inPlace := ["internal/abi.NoEscape", "internal/bytealg.MakeNoZero"], unfollowed := true, recurses := true, named := ["tombola/cand.widths"], apart := false, laid := [("tombola/cand.widths", laid_tombola_cand_widths)] }
def CandNamesSaid : Prop := candNamesRow.holds Tryd.pinned (OpenSpec.ofChange candNamesSpec)

/-- ITS FALSE NEIGHBOUR: 'it returns false'. Refute it at one input. -/
def candNamesWrong : ChangeSpec := { name := "candNames", fn := fun _ => fun
  | [] => { results := [.lit (.bool false)], args := [] }
  | _ => none }
def CandNamesWrongFalsely : Prop := candNamesRow.holds Tryd.pinned (OpenSpec.ofChange candNamesWrong)

/-- 'tombolalaw30.CandBits': WHATEVER THE INPUT: true; the input reads as it did. -/
def candBitsSpec : ChangeSpec := { name := "candBits", fn := fun _ => fun
  | [d1, d2] => { results := [.lit (.bool true)], args := [d1, d2] }
  | _ => none }
def candBitsRow : OpenClaim := { program := "ytbmifejeffgobaadoor", sum := "b0d33424362cc13f3d7bd11ebea23b8d8848f00e57d4ec6629ecd0bc54699dfb", func := "tombola/tombolalaw30.CandBits", spec := "candBits", inPlace := ["internal/abi.NoEscape", "internal/bytealg.MakeNoZero"], unfollowed := true, recurses := true, named := ["tombola/cand.widths"], apart := false, laid := [("tombola/cand.widths", laid_tombola_cand_widths)] }
def CandBitsSaid : Prop := candBitsRow.holds Tryd.pinned (OpenSpec.ofChange candBitsSpec)

/-- ITS FALSE NEIGHBOUR: 'it returns false'. Refute it at one input. -/
def candBitsWrong : ChangeSpec := { name := "candBits", fn := fun _ => fun
  | [d1, d2] => { results := [.lit (.bool false)], args := [d1, d2] }
  | _ => none }
def CandBitsWrongFalsely : Prop := candBitsRow.holds Tryd.pinned (OpenSpec.ofChange candBitsWrong)

/-- 'tombolalaw30.CandRow': WHATEVER THE INPUT: true; the input reads as it did. -/
def candRowSpec : ChangeSpec := { name := "candRow", fn := fun _ => fun
  | [d1, d2] => { results := [.lit (.bool true)], args := [d1, d2] }
  | _ => none }
def candRowRow : OpenClaim := { program := "ytbmifejeffgobaadoor", sum := "b0d33424362cc13f3d7bd11ebea23b8d8848f00e57d4ec6629ecd0bc54699dfb", func := "tombola/tombolalaw30.CandRow", spec := "candRow", inPlace := ["internal/abi.NoEscape", "internal/bytealg.MakeNoZero"], unfollowed := true, recurses := true, named := ["tombola/cand.widths"], apart := false, laid := [("tombola/cand.widths", laid_tombola_cand_widths)] }
def CandRowSaid : Prop := candRowRow.holds Tryd.pinned (OpenSpec.ofChange candRowSpec)

/-- ITS FALSE NEIGHBOUR: 'it returns false'. Refute it at one input. -/
def candRowWrong : ChangeSpec := { name := "candRow", fn := fun _ => fun
  | [d1, d2] => { results := [.lit (.bool false)], args := [d1, d2] }
  | _ => none }
def CandRowWrongFalsely : Prop := candRowRow.holds Tryd.pinned (OpenSpec.ofChange candRowWrong)

/-- 'tombolalaw30.CandLess': WHATEVER THE INPUT: true; the input reads as it did. -/
def candLessSpec : ChangeSpec := { name := "candLess", fn := fun _ => fun
  | [d] => { results := [.lit (.bool true)], args := [d] }
  | _ => none }
def candLessRow : OpenClaim := { program := "ytbmifejeffgobaadoor", sum := "b0d33424362cc13f3d7bd11ebea23b8d8848f00e57d4ec6629ecd0bc54699dfb", func := "tombola/tombolalaw30.CandLess", spec := "candLess", inPlace := ["internal/abi.NoEscape", "internal/bytealg.MakeNoZero", "internal/bytealg.abigen_runtime_cmpstring"], unfollowed := true, recurses := true, named := ["tombola/cand.widths"], apart := false, laid := [("tombola/cand.widths", laid_tombola_cand_widths)] }
def CandLessSaid : Prop := candLessRow.holds Tryd.pinned (OpenSpec.ofChange candLessSpec)

/-- ITS FALSE NEIGHBOUR: 'it returns false'. Refute it at one input. -/
def candLessWrong : ChangeSpec := { name := "candLess", fn := fun _ => fun
  | [d] => { results := [.lit (.bool false)], args := [d] }
  | _ => none }
def CandLessWrongFalsely : Prop := candLessRow.holds Tryd.pinned (OpenSpec.ofChange candLessWrong)

/-- 'tombolalaw30.CandBelow': WHATEVER THE INPUT: true; the input reads as it did. -/
def candBelowSpec : ChangeSpec := { name := "candBelow", fn := fun _ => fun
  | [d] => { results := [.lit (.bool true)], args := [d] }
  | _ => none }
def candBelowRow : OpenClaim := { program := "ytbmifejeffgobaadoor", sum := "b0d33424362cc13f3d7bd11ebea23b8d8848f00e57d4ec6629ecd0bc54699dfb", func := "tombola/tombolalaw30.CandBelow", spec := "candBelow", inPlace := ["internal/abi.NoEscape", "internal/bytealg.MakeNoZero", "internal/bytealg.abigen_runtime_cmpstring"], unfollowed := true, recurses := true, named := ["tombola/cand.widths"], apart := false, laid := [("tombola/cand.widths", laid_tombola_cand_widths)] }
def CandBelowSaid : Prop := candBelowRow.holds Tryd.pinned (OpenSpec.ofChange candBelowSpec)

/-- ITS FALSE NEIGHBOUR: 'it returns false'. Refute it at one input. -/
def candBelowWrong : ChangeSpec := { name := "candBelow", fn := fun _ => fun
  | [d] => { results := [.lit (.bool false)], args := [d] }
  | _ => none }
def CandBelowWrongFalsely : Prop := candBelowRow.holds Tryd.pinned (OpenSpec.ofChange candBelowWrong)

/- THE SECOND FORM. 'bulk': how many values and letters a reading holds, each counted each time it is reached (what is shared counts as often as it is met; a slice's spare places count too). A statement '..UptoSaid' is the law's where the arguments, and the package variables that the reading takes, are together of bulk at most 1048576: NARROWER than '..Said'. Prove '..Said' where nothing that the law and all that it calls make is longer than what came in: it says more and counts as full. Else prove '..UptoSaid'. A law counts once. -/
mutual
def uptoBulk {H : Type} : DataW H → Nat
  | .lit (.string bytes) => bytes.length + 1
  | .lit _ => 1
  | .nil => 1
  | .ptr d => uptoBulk d + 1
  | .slice elems spare => uptoBulkAll elems + uptoBulkAll spare + 1
  | .agg parts => uptoBulkAll parts + 1
  | .iface _ d => uptoBulk d + 1
  | .map entries => uptoBulkEntries entries + 1
  | .held _ => 1
def uptoBulkAll {H : Type} : List (DataW H) → Nat
  | [] => 0
  | d :: r => uptoBulk d + uptoBulkAll r
def uptoBulkEntries {H : Type} : List (Lit × DataW H) → Nat
  | [] => 0
  | x :: r => uptoBulkEntry x + uptoBulkEntries r
def uptoBulkEntry {H : Type} : Lit × DataW H → Nat
  | (.string bytes, d) => bytes.length + uptoBulk d + 1
  | (_, d) => uptoBulk d + 1
 end
def uptoSmall : (H : Type) → List (DataW H) → Bool := fun _ ds => decide (uptoBulkAll ds ≤ 1048576)
def OpenSpec.upto (s : _root_.Go.ChangeSpec) : _root_.Go.OpenSpec := { _root_.Go.OpenSpec.ofChange s with cond := some uptoSmall }

/-- 'tombolalaw30.CandTells', WHERE WHAT IT READS IS OF BULK AT MOST 1048576: true; the input reads as it did. -/
def candTellsUptoRow : OpenClaim := { program := "ytbmifejeffgobaadoor", sum := "b0d33424362cc13f3d7bd11ebea23b8d8848f00e57d4ec6629ecd0bc54699dfb", func := "tombola/tombolalaw30.CandTells", spec := "candTells", inPlace := ["internal/abi.NoEscape", "internal/bytealg.MakeNoZero"], unfollowed := true, recurses := true, named := ["tombola/cand.widths"], apart := false, laid := [("tombola/cand.widths", laid_tombola_cand_widths)], narrowed := true }
def CandTellsUptoSaid : Prop := candTellsUptoRow.holds Tryd.pinned (OpenSpec.upto candTellsSpec)

/-- 'tombolalaw30.CandNames', WHERE WHAT IT READS IS OF BULK AT MOST 1048576: true; the input reads as it did. -/
def candNamesUptoRow : OpenClaim := { program := "ytbmifejeffgobaadoor", sum := "b0d33424362cc13f3d7bd11ebea23b8d8848f00e57d4ec6629ecd0bc54699dfb", func := "tombola/tombolalaw30.CandNames", spec := "candNames", inPlace := ["internal/abi.NoEscape", "internal/bytealg.MakeNoZero"], unfollowed := true, recurses := true, named := ["tombola/cand.widths"], apart := false, laid := [("tombola/cand.widths", laid_tombola_cand_widths)], narrowed := true }
def CandNamesUptoSaid : Prop := candNamesUptoRow.holds Tryd.pinned (OpenSpec.upto candNamesSpec)

/-- 'tombolalaw30.CandBits', WHERE WHAT IT READS IS OF BULK AT MOST 1048576: true; the input reads as it did. -/
def candBitsUptoRow : OpenClaim := { program := "ytbmifejeffgobaadoor", sum := "b0d33424362cc13f3d7bd11ebea23b8d8848f00e57d4ec6629ecd0bc54699dfb", func := "tombola/tombolalaw30.CandBits", spec := "candBits", inPlace := ["internal/abi.NoEscape", "internal/bytealg.MakeNoZero"], unfollowed := true, recurses := true, named := ["tombola/cand.widths"], apart := false, laid := [("tombola/cand.widths", laid_tombola_cand_widths)], narrowed := true }
def CandBitsUptoSaid : Prop := candBitsUptoRow.holds Tryd.pinned (OpenSpec.upto candBitsSpec)

/-- 'tombolalaw30.CandRow', WHERE WHAT IT READS IS OF BULK AT MOST 1048576: true; the input reads as it did. -/
def candRowUptoRow : OpenClaim := { program := "ytbmifejeffgobaadoor", sum := "b0d33424362cc13f3d7bd11ebea23b8d8848f00e57d4ec6629ecd0bc54699dfb", func := "tombola/tombolalaw30.CandRow", spec := "candRow", inPlace := ["internal/abi.NoEscape", "internal/bytealg.MakeNoZero"], unfollowed := true, recurses := true, named := ["tombola/cand.widths"], apart := false, laid := [("tombola/cand.widths", laid_tombola_cand_widths)], narrowed := true }
def CandRowUptoSaid : Prop := candRowUptoRow.holds Tryd.pinned (OpenSpec.upto candRowSpec)

/-- 'tombolalaw30.CandLess', WHERE WHAT IT READS IS OF BULK AT MOST 1048576: true; the input reads as it did. -/
def candLessUptoRow : OpenClaim := { program := "ytbmifejeffgobaadoor", sum := "b0d33424362cc13f3d7bd11ebea23b8d8848f00e57d4ec6629ecd0bc54699dfb", func := "tombola/tombolalaw30.CandLess", spec := "candLess", inPlace := ["internal/abi.NoEscape", "internal/bytealg.MakeNoZero", "internal/bytealg.abigen_runtime_cmpstring"], unfollowed := true, recurses := true, named := ["tombola/cand.widths"], apart := false, laid := [("tombola/cand.widths", laid_tombola_cand_widths)], narrowed := true }
def CandLessUptoSaid : Prop := candLessUptoRow.holds Tryd.pinned (OpenSpec.upto candLessSpec)

/-- 'tombolalaw30.CandBelow', WHERE WHAT IT READS IS OF BULK AT MOST 1048576: true; the input reads as it did. -/
def candBelowUptoRow : OpenClaim := { program := "ytbmifejeffgobaadoor", sum := "b0d33424362cc13f3d7bd11ebea23b8d8848f00e57d4ec6629ecd0bc54699dfb", func := "tombola/tombolalaw30.CandBelow", spec := "candBelow", inPlace := ["internal/abi.NoEscape", "internal/bytealg.MakeNoZero", "internal/bytealg.abigen_runtime_cmpstring"], unfollowed := true, recurses := true, named := ["tombola/cand.widths"], apart := false, laid := [("tombola/cand.widths", laid_tombola_cand_widths)], narrowed := true }
def CandBelowUptoSaid : Prop := candBelowUptoRow.holds Tryd.pinned (OpenSpec.upto candBelowSpec)

end Rows
end Go.Proofs.YtbmifejeffgobaaDoor
