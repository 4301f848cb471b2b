/-
  DERIVED. GIVEN WITH THE SEED: THE CARDS: each row of YtjcnhnifageikaaDoorRows.lean that lists a variable, with what it lists TIED to the program's text (the seventh form; the later family's looks); each row that meets fmt, with fmt's text TOLD by the authors' own Lean function (tested against real Go, not proved from fmt's source: count such statements apart). THE CARD IS WHAT COUNTS. Prove the row's statement (the work); the ties are given (YtjcnhnifageikaaDoorTie.lean); close each card by the builder's one call (the guide's Derived/Test/ToyasCard.lean, 'card_holds'). Laid BY PROGRAM, IN A SANDBOX (cutbox-door.mjs). By AI agents, Wed Nov 11 2026. No macro, syntax, notation, axiom, sorry.
-/
import Derived.Test.YtjcnhnifageikaaDoorRows
import GoSem.ClaimSeven
namespace Go.Proofs.YtjcnhnifageikaaDoor
namespace Rows

/-- THE TIED CARD OF 'weepholelaw18.ShiftMatches'. -/
def shiftMatchesCard : Claim7 := { stood := { row := shiftMatchesRow, standIns := [], harness := (true, "f8d4157f06dd8963862172d67266b17a89d1cf3b64faeb26dbf3b9a8338d758a"), looks := false }, kinds := [], alts := [], laidByText := true, laidKinds := [.data], laidTests := true, laidLooks := .later }
def ShiftMatchesCardSaid : Prop := Claim7.holds Tryd.pinned (.plain (OpenSpec.ofChange shiftMatchesSpec)) shiftMatchesCard

/-- THE TIED CARD OF 'weepholelaw18.ShiftWords'. -/
def shiftWordsCard : Claim7 := { stood := { row := shiftWordsRow, standIns := [], harness := (true, "f8d4157f06dd8963862172d67266b17a89d1cf3b64faeb26dbf3b9a8338d758a"), looks := false }, kinds := [], alts := [], laidByText := true, laidKinds := [.data], laidTests := true, laidLooks := .later }
def ShiftWordsCardSaid : Prop := Claim7.holds Tryd.pinned (.plain (OpenSpec.ofChange shiftWordsSpec)) shiftWordsCard

/-- THE TIED CARD OF 'weepholelaw18.ShiftEdges'. -/
def shiftEdgesCard : Claim7 := { stood := { row := shiftEdgesRow, standIns := [], harness := (true, "f8d4157f06dd8963862172d67266b17a89d1cf3b64faeb26dbf3b9a8338d758a"), looks := false }, kinds := [], alts := [], laidByText := true, laidKinds := [.data], laidTests := true, laidLooks := .later }
def ShiftEdgesCardSaid : Prop := Claim7.holds Tryd.pinned (.plain (OpenSpec.ofChange shiftEdgesSpec)) shiftEdgesCard

/-- THE TIED CARD OF 'weepholelaw18.ShiftTwice'. -/
def shiftTwiceCard : Claim7 := { stood := { row := shiftTwiceRow, standIns := [], harness := (true, "f8d4157f06dd8963862172d67266b17a89d1cf3b64faeb26dbf3b9a8338d758a"), looks := false }, kinds := [], alts := [], laidByText := true, laidKinds := [.data], laidTests := true, laidLooks := .later }
def ShiftTwiceCardSaid : Prop := Claim7.holds Tryd.pinned (.plain (OpenSpec.ofChange shiftTwiceSpec)) shiftTwiceCard

/-- THE TIED CARD OF 'weepholelaw18.ShiftSigned'. -/
def shiftSignedCard : Claim7 := { stood := { row := shiftSignedRow, standIns := [], harness := (true, "f8d4157f06dd8963862172d67266b17a89d1cf3b64faeb26dbf3b9a8338d758a"), looks := false }, kinds := [], alts := [], laidByText := true, laidKinds := [.data], laidTests := true, laidLooks := .later }
def ShiftSignedCardSaid : Prop := Claim7.holds Tryd.pinned (.plain (OpenSpec.ofChange shiftSignedSpec)) shiftSignedCard

/-- THE TIED CARD OF 'weepholelaw18.ShiftFew'. -/
def shiftFewCard : Claim7 := { stood := { row := shiftFewRow, standIns := [], harness := (true, "f8d4157f06dd8963862172d67266b17a89d1cf3b64faeb26dbf3b9a8338d758a"), looks := false }, kinds := [], alts := [], laidByText := true, laidKinds := [.data], laidTests := true, laidLooks := .later }
def ShiftFewCardSaid : Prop := Claim7.holds Tryd.pinned (.plain (OpenSpec.ofChange shiftFewSpec)) shiftFewCard

/-- THE TIED CARD OF 'weepholelaw18.ShiftNames'. -/
def shiftNamesCard : Claim7 := { stood := { row := shiftNamesRow, standIns := [], harness := (true, "f8d4157f06dd8963862172d67266b17a89d1cf3b64faeb26dbf3b9a8338d758a"), looks := false }, kinds := [], alts := [], laidByText := true, laidKinds := [.data], laidTests := true, laidLooks := .later }
def ShiftNamesCardSaid : Prop := Claim7.holds Tryd.pinned (.plain (OpenSpec.ofChange shiftNamesSpec)) shiftNamesCard

/-- THE SECOND FORM's CARD OF 'weepholelaw18.ShiftMatches'. -/
def shiftMatchesUptoCard : Claim7 := { stood := { row := shiftMatchesUptoRow, standIns := [], harness := (true, "f8d4157f06dd8963862172d67266b17a89d1cf3b64faeb26dbf3b9a8338d758a"), looks := false }, kinds := [], alts := [], laidByText := true, laidKinds := [.data], laidTests := true, laidLooks := .later }
def ShiftMatchesUptoCardSaid : Prop := Claim7.holds Tryd.pinned (.plain (OpenSpec.upto shiftMatchesSpec)) shiftMatchesUptoCard

/-- THE SECOND FORM's CARD OF 'weepholelaw18.ShiftWords'. -/
def shiftWordsUptoCard : Claim7 := { stood := { row := shiftWordsUptoRow, standIns := [], harness := (true, "f8d4157f06dd8963862172d67266b17a89d1cf3b64faeb26dbf3b9a8338d758a"), looks := false }, kinds := [], alts := [], laidByText := true, laidKinds := [.data], laidTests := true, laidLooks := .later }
def ShiftWordsUptoCardSaid : Prop := Claim7.holds Tryd.pinned (.plain (OpenSpec.upto shiftWordsSpec)) shiftWordsUptoCard

/-- THE SECOND FORM's CARD OF 'weepholelaw18.ShiftEdges'. -/
def shiftEdgesUptoCard : Claim7 := { stood := { row := shiftEdgesUptoRow, standIns := [], harness := (true, "f8d4157f06dd8963862172d67266b17a89d1cf3b64faeb26dbf3b9a8338d758a"), looks := false }, kinds := [], alts := [], laidByText := true, laidKinds := [.data], laidTests := true, laidLooks := .later }
def ShiftEdgesUptoCardSaid : Prop := Claim7.holds Tryd.pinned (.plain (OpenSpec.upto shiftEdgesSpec)) shiftEdgesUptoCard

/-- THE SECOND FORM's CARD OF 'weepholelaw18.ShiftTwice'. -/
def shiftTwiceUptoCard : Claim7 := { stood := { row := shiftTwiceUptoRow, standIns := [], harness := (true, "f8d4157f06dd8963862172d67266b17a89d1cf3b64faeb26dbf3b9a8338d758a"), looks := false }, kinds := [], alts := [], laidByText := true, laidKinds := [.data], laidTests := true, laidLooks := .later }
def ShiftTwiceUptoCardSaid : Prop := Claim7.holds Tryd.pinned (.plain (OpenSpec.upto shiftTwiceSpec)) shiftTwiceUptoCard

/-- THE SECOND FORM's CARD OF 'weepholelaw18.ShiftSigned'. -/
def shiftSignedUptoCard : Claim7 := { stood := { row := shiftSignedUptoRow, standIns := [], harness := (true, "f8d4157f06dd8963862172d67266b17a89d1cf3b64faeb26dbf3b9a8338d758a"), looks := false }, kinds := [], alts := [], laidByText := true, laidKinds := [.data], laidTests := true, laidLooks := .later }
def ShiftSignedUptoCardSaid : Prop := Claim7.holds Tryd.pinned (.plain (OpenSpec.upto shiftSignedSpec)) shiftSignedUptoCard

/-- THE SECOND FORM's CARD OF 'weepholelaw18.ShiftFew'. -/
def shiftFewUptoCard : Claim7 := { stood := { row := shiftFewUptoRow, standIns := [], harness := (true, "f8d4157f06dd8963862172d67266b17a89d1cf3b64faeb26dbf3b9a8338d758a"), looks := false }, kinds := [], alts := [], laidByText := true, laidKinds := [.data], laidTests := true, laidLooks := .later }
def ShiftFewUptoCardSaid : Prop := Claim7.holds Tryd.pinned (.plain (OpenSpec.upto shiftFewSpec)) shiftFewUptoCard

/-- THE SECOND FORM's CARD OF 'weepholelaw18.ShiftNames'. -/
def shiftNamesUptoCard : Claim7 := { stood := { row := shiftNamesUptoRow, standIns := [], harness := (true, "f8d4157f06dd8963862172d67266b17a89d1cf3b64faeb26dbf3b9a8338d758a"), looks := false }, kinds := [], alts := [], laidByText := true, laidKinds := [.data], laidTests := true, laidLooks := .later }
def ShiftNamesUptoCardSaid : Prop := Claim7.holds Tryd.pinned (.plain (OpenSpec.upto shiftNamesSpec)) shiftNamesUptoCard
end Rows
end Go.Proofs.YtjcnhnifageikaaDoor
