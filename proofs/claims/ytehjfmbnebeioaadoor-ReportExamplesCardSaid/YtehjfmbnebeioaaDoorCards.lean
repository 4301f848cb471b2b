/-
  DERIVED. GIVEN WITH THE SEED: THE CARDS: each row of YtehjfmbnebeioaaDoorRows.lean that lists a variable, with what it lists TIED to the program's text (the seventh form; the later family's looks); each row that meets fmt, with fmt's text TOLD by the authors' own Lean function (tested against real Go, not proved from fmt's source: count such statements apart). THE CARD IS WHAT COUNTS. Prove the row's statement (the work); the ties are given (YtehjfmbnebeioaaDoorTie.lean); close each card by the builder's one call (the guide's Derived/Test/ToyasCard.lean, 'card_holds'). Laid BY PROGRAM, IN A SANDBOX (cutbox-door.mjs). By AI agents, Wed Nov 11 2026. No macro, syntax, notation, axiom, sorry.
-/
import Derived.Test.YtehjfmbnebeioaaDoorRows
import GoSem.ClaimSeven
namespace Go.Proofs.YtehjfmbnebeioaaDoor
namespace Rows

/-- THE TIED CARD OF 'weepholelaw39.ReportWords'. -/
def reportWordsCard : Claim7 := { stood := { row := reportWordsRow, standIns := [], harness := (true, "f55161d59aa6bc129c9396966ccc5fabcdde53019cf078687214b21f5eaae114"), looks := false }, kinds := [], alts := [], laidByText := true, laidKinds := [.data, .data, .data, .data, .data], laidTests := true, laidLooks := .later }
def ReportWordsCardSaid : Prop := Claim7.holds Tryd.pinned (.plain (OpenSpec.ofChange reportWordsSpec)) reportWordsCard

/-- THE TIED CARD OF 'weepholelaw39.ReportExamples'. -/
def reportExamplesCard : Claim7 := { stood := { row := reportExamplesRow, standIns := [], harness := (true, "f55161d59aa6bc129c9396966ccc5fabcdde53019cf078687214b21f5eaae114"), looks := false }, kinds := [], alts := [], laidByText := true, laidKinds := [.data, .data, .data, .data, .data], laidTests := true, laidLooks := .later }
def ReportExamplesCardSaid : Prop := Claim7.holds Tryd.pinned (.plain (OpenSpec.ofChange reportExamplesSpec)) reportExamplesCard

/-- THE TIED CARD OF 'weepholelaw39.ReportTells'. -/
def reportTellsCard : Claim7 := { stood := { row := reportTellsRow, standIns := [], harness := (true, "f55161d59aa6bc129c9396966ccc5fabcdde53019cf078687214b21f5eaae114"), looks := false }, kinds := [], alts := [], laidByText := true, laidKinds := [.data, .data, .data, .data, .data], laidTests := true, laidLooks := .later }
def ReportTellsCardSaid : Prop := Claim7.holds Tryd.pinned (.plain (OpenSpec.ofChange reportTellsSpec)) reportTellsCard

/-- THE TIED CARD OF 'weepholelaw39.ReportRefuses'. -/
def reportRefusesCard : Claim7 := { stood := { row := reportRefusesRow, standIns := [], harness := (true, "f55161d59aa6bc129c9396966ccc5fabcdde53019cf078687214b21f5eaae114"), looks := false }, kinds := [], alts := [], laidByText := true, laidKinds := [.data, .data, .data, .data, .data], laidTests := true, laidLooks := .later }
def ReportRefusesCardSaid : Prop := Claim7.holds Tryd.pinned (.plain (OpenSpec.ofChange reportRefusesSpec)) reportRefusesCard

/-- THE TIED CARD OF 'weepholelaw39.ReportTurns'. -/
def reportTurnsCard : Claim7 := { stood := { row := reportTurnsRow, standIns := [], harness := (true, "f55161d59aa6bc129c9396966ccc5fabcdde53019cf078687214b21f5eaae114"), looks := false }, kinds := [], alts := [], laidByText := true, laidKinds := [.data, .data, .data, .data, .data], laidTests := true, laidLooks := .later }
def ReportTurnsCardSaid : Prop := Claim7.holds Tryd.pinned (.plain (OpenSpec.ofChange reportTurnsSpec)) reportTurnsCard

/-- THE TIED CARD OF 'weepholelaw39.ReportCounts'. -/
def reportCountsCard : Claim7 := { stood := { row := reportCountsRow, standIns := [], harness := (true, "f55161d59aa6bc129c9396966ccc5fabcdde53019cf078687214b21f5eaae114"), looks := false }, kinds := [], alts := [], laidByText := true, laidKinds := [.data, .data, .data, .data, .data], laidTests := true, laidLooks := .later }
def ReportCountsCardSaid : Prop := Claim7.holds Tryd.pinned (.plain (OpenSpec.ofChange reportCountsSpec)) reportCountsCard

/-- THE SECOND FORM's CARD OF 'weepholelaw39.ReportWords'. -/
def reportWordsUptoCard : Claim7 := { stood := { row := reportWordsUptoRow, standIns := [], harness := (true, "f55161d59aa6bc129c9396966ccc5fabcdde53019cf078687214b21f5eaae114"), looks := false }, kinds := [], alts := [], laidByText := true, laidKinds := [.data, .data, .data, .data, .data], laidTests := true, laidLooks := .later }
def ReportWordsUptoCardSaid : Prop := Claim7.holds Tryd.pinned (.plain (OpenSpec.upto reportWordsSpec)) reportWordsUptoCard

/-- THE SECOND FORM's CARD OF 'weepholelaw39.ReportExamples'. -/
def reportExamplesUptoCard : Claim7 := { stood := { row := reportExamplesUptoRow, standIns := [], harness := (true, "f55161d59aa6bc129c9396966ccc5fabcdde53019cf078687214b21f5eaae114"), looks := false }, kinds := [], alts := [], laidByText := true, laidKinds := [.data, .data, .data, .data, .data], laidTests := true, laidLooks := .later }
def ReportExamplesUptoCardSaid : Prop := Claim7.holds Tryd.pinned (.plain (OpenSpec.upto reportExamplesSpec)) reportExamplesUptoCard

/-- THE SECOND FORM's CARD OF 'weepholelaw39.ReportTells'. -/
def reportTellsUptoCard : Claim7 := { stood := { row := reportTellsUptoRow, standIns := [], harness := (true, "f55161d59aa6bc129c9396966ccc5fabcdde53019cf078687214b21f5eaae114"), looks := false }, kinds := [], alts := [], laidByText := true, laidKinds := [.data, .data, .data, .data, .data], laidTests := true, laidLooks := .later }
def ReportTellsUptoCardSaid : Prop := Claim7.holds Tryd.pinned (.plain (OpenSpec.upto reportTellsSpec)) reportTellsUptoCard

/-- THE SECOND FORM's CARD OF 'weepholelaw39.ReportRefuses'. -/
def reportRefusesUptoCard : Claim7 := { stood := { row := reportRefusesUptoRow, standIns := [], harness := (true, "f55161d59aa6bc129c9396966ccc5fabcdde53019cf078687214b21f5eaae114"), looks := false }, kinds := [], alts := [], laidByText := true, laidKinds := [.data, .data, .data, .data, .data], laidTests := true, laidLooks := .later }
def ReportRefusesUptoCardSaid : Prop := Claim7.holds Tryd.pinned (.plain (OpenSpec.upto reportRefusesSpec)) reportRefusesUptoCard

/-- THE SECOND FORM's CARD OF 'weepholelaw39.ReportTurns'. -/
def reportTurnsUptoCard : Claim7 := { stood := { row := reportTurnsUptoRow, standIns := [], harness := (true, "f55161d59aa6bc129c9396966ccc5fabcdde53019cf078687214b21f5eaae114"), looks := false }, kinds := [], alts := [], laidByText := true, laidKinds := [.data, .data, .data, .data, .data], laidTests := true, laidLooks := .later }
def ReportTurnsUptoCardSaid : Prop := Claim7.holds Tryd.pinned (.plain (OpenSpec.upto reportTurnsSpec)) reportTurnsUptoCard

/-- THE SECOND FORM's CARD OF 'weepholelaw39.ReportCounts'. -/
def reportCountsUptoCard : Claim7 := { stood := { row := reportCountsUptoRow, standIns := [], harness := (true, "f55161d59aa6bc129c9396966ccc5fabcdde53019cf078687214b21f5eaae114"), looks := false }, kinds := [], alts := [], laidByText := true, laidKinds := [.data, .data, .data, .data, .data], laidTests := true, laidLooks := .later }
def ReportCountsUptoCardSaid : Prop := Claim7.holds Tryd.pinned (.plain (OpenSpec.upto reportCountsSpec)) reportCountsUptoCard
end Rows
end Go.Proofs.YtehjfmbnebeioaaDoor
