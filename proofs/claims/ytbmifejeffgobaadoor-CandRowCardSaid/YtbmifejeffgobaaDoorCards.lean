/-
  DERIVED. GIVEN WITH THE SEED: THE CARDS: each row of YtbmifejeffgobaaDoorRows.lean that lists a variable, with what it lists TIED to the program's text (the seventh form; the later family's looks); each row that meets fmt, with fmt's text TOLD by the authors' own Lean function (tested against real Go, not proved from fmt's source: count such statements apart). THE CARD IS WHAT COUNTS. Prove the row's statement (the work); the ties are given (YtbmifejeffgobaaDoorTie.lean); close each card by the builder's one call (the guide's Derived/Test/ToyasCard.lean, 'card_holds'). Laid BY PROGRAM, IN A SANDBOX (cutbox-door.mjs). By AI agents, Wed Nov 11 2026. No macro, syntax, notation, axiom, sorry.
-/
import Derived.Test.YtbmifejeffgobaaDoorRows
import GoSem.ClaimSeven
namespace Go.Proofs.YtbmifejeffgobaaDoor
namespace Rows

/-- THE TIED CARD OF 'tombolalaw30.CandTells'. -/
def candTellsCard : Claim7 := { stood := { row := candTellsRow, standIns := [], harness := (true, "8063661ee9a3d3253c0a59e3d6b8a79ccc07b40d5ce3f1ed386fd7d7af5f8f23"), looks := false }, kinds := [], alts := [], laidByText := true, laidKinds := [.data], laidTests := true, laidLooks := .later }
def CandTellsCardSaid : Prop := Claim7.holds Tryd.pinned (.plain (OpenSpec.ofChange candTellsSpec)) candTellsCard

/-- THE TIED CARD OF 'tombolalaw30.CandNames'. -/
def candNamesCard : Claim7 := { stood := { row := candNamesRow, standIns := [], harness := (true, "8063661ee9a3d3253c0a59e3d6b8a79ccc07b40d5ce3f1ed386fd7d7af5f8f23"), looks := false }, kinds := [], alts := [], laidByText := true, laidKinds := [.data], laidTests := true, laidLooks := .later }
def CandNamesCardSaid : Prop := Claim7.holds Tryd.pinned (.plain (OpenSpec.ofChange candNamesSpec)) candNamesCard

/-- THE TIED CARD OF 'tombolalaw30.CandBits'. -/
def candBitsCard : Claim7 := { stood := { row := candBitsRow, standIns := [], harness := (true, "8063661ee9a3d3253c0a59e3d6b8a79ccc07b40d5ce3f1ed386fd7d7af5f8f23"), looks := false }, kinds := [], alts := [], laidByText := true, laidKinds := [.data], laidTests := true, laidLooks := .later }
def CandBitsCardSaid : Prop := Claim7.holds Tryd.pinned (.plain (OpenSpec.ofChange candBitsSpec)) candBitsCard

/-- THE TIED CARD OF 'tombolalaw30.CandRow'. -/
def candRowCard : Claim7 := { stood := { row := candRowRow, standIns := [], harness := (true, "8063661ee9a3d3253c0a59e3d6b8a79ccc07b40d5ce3f1ed386fd7d7af5f8f23"), looks := false }, kinds := [], alts := [], laidByText := true, laidKinds := [.data], laidTests := true, laidLooks := .later }
def CandRowCardSaid : Prop := Claim7.holds Tryd.pinned (.plain (OpenSpec.ofChange candRowSpec)) candRowCard

/-- THE TIED CARD OF 'tombolalaw30.CandLess'. -/
def candLessCard : Claim7 := { stood := { row := candLessRow, standIns := [], harness := (true, "8063661ee9a3d3253c0a59e3d6b8a79ccc07b40d5ce3f1ed386fd7d7af5f8f23"), looks := false }, kinds := [], alts := [], laidByText := true, laidKinds := [.data], laidTests := true, laidLooks := .later }
def CandLessCardSaid : Prop := Claim7.holds Tryd.pinned (.plain (OpenSpec.ofChange candLessSpec)) candLessCard

/-- THE TIED CARD OF 'tombolalaw30.CandBelow'. -/
def candBelowCard : Claim7 := { stood := { row := candBelowRow, standIns := [], harness := (true, "8063661ee9a3d3253c0a59e3d6b8a79ccc07b40d5ce3f1ed386fd7d7af5f8f23"), looks := false }, kinds := [], alts := [], laidByText := true, laidKinds := [.data], laidTests := true, laidLooks := .later }
def CandBelowCardSaid : Prop := Claim7.holds Tryd.pinned (.plain (OpenSpec.ofChange candBelowSpec)) candBelowCard

/-- THE SECOND FORM's CARD OF 'tombolalaw30.CandTells'. -/
def candTellsUptoCard : Claim7 := { stood := { row := candTellsUptoRow, standIns := [], harness := (true, "8063661ee9a3d3253c0a59e3d6b8a79ccc07b40d5ce3f1ed386fd7d7af5f8f23"), looks := false }, kinds := [], alts := [], laidByText := true, laidKinds := [.data], laidTests := true, laidLooks := .later }
def CandTellsUptoCardSaid : Prop := Claim7.holds Tryd.pinned (.plain (OpenSpec.upto candTellsSpec)) candTellsUptoCard

/-- THE SECOND FORM's CARD OF 'tombolalaw30.CandNames'. -/
def candNamesUptoCard : Claim7 := { stood := { row := candNamesUptoRow, standIns := [], harness := (true, "8063661ee9a3d3253c0a59e3d6b8a79ccc07b40d5ce3f1ed386fd7d7af5f8f23"), looks := false }, kinds := [], alts := [], laidByText := true, laidKinds := [.data], laidTests := true, laidLooks := .later }
def CandNamesUptoCardSaid : Prop := Claim7.holds Tryd.pinned (.plain (OpenSpec.upto candNamesSpec)) candNamesUptoCard

/-- THE SECOND FORM's CARD OF 'tombolalaw30.CandBits'. -/
def candBitsUptoCard : Claim7 := { stood := { row := candBitsUptoRow, standIns := [], harness := (true, "8063661ee9a3d3253c0a59e3d6b8a79ccc07b40d5ce3f1ed386fd7d7af5f8f23"), looks := false }, kinds := [], alts := [], laidByText := true, laidKinds := [.data], laidTests := true, laidLooks := .later }
def CandBitsUptoCardSaid : Prop := Claim7.holds Tryd.pinned (.plain (OpenSpec.upto candBitsSpec)) candBitsUptoCard

/-- THE SECOND FORM's CARD OF 'tombolalaw30.CandRow'. -/
def candRowUptoCard : Claim7 := { stood := { row := candRowUptoRow, standIns := [], harness := (true, "8063661ee9a3d3253c0a59e3d6b8a79ccc07b40d5ce3f1ed386fd7d7af5f8f23"), looks := false }, kinds := [], alts := [], laidByText := true, laidKinds := [.data], laidTests := true, laidLooks := .later }
def CandRowUptoCardSaid : Prop := Claim7.holds Tryd.pinned (.plain (OpenSpec.upto candRowSpec)) candRowUptoCard

/-- THE SECOND FORM's CARD OF 'tombolalaw30.CandLess'. -/
def candLessUptoCard : Claim7 := { stood := { row := candLessUptoRow, standIns := [], harness := (true, "8063661ee9a3d3253c0a59e3d6b8a79ccc07b40d5ce3f1ed386fd7d7af5f8f23"), looks := false }, kinds := [], alts := [], laidByText := true, laidKinds := [.data], laidTests := true, laidLooks := .later }
def CandLessUptoCardSaid : Prop := Claim7.holds Tryd.pinned (.plain (OpenSpec.upto candLessSpec)) candLessUptoCard

/-- THE SECOND FORM's CARD OF 'tombolalaw30.CandBelow'. -/
def candBelowUptoCard : Claim7 := { stood := { row := candBelowUptoRow, standIns := [], harness := (true, "8063661ee9a3d3253c0a59e3d6b8a79ccc07b40d5ce3f1ed386fd7d7af5f8f23"), looks := false }, kinds := [], alts := [], laidByText := true, laidKinds := [.data], laidTests := true, laidLooks := .later }
def CandBelowUptoCardSaid : Prop := Claim7.holds Tryd.pinned (.plain (OpenSpec.upto candBelowSpec)) candBelowUptoCard
end Rows
end Go.Proofs.YtbmifejeffgobaaDoor
