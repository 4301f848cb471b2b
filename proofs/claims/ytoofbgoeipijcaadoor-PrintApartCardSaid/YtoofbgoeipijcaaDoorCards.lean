/-
  DERIVED. GIVEN WITH THE SEED: THE CARDS: each row of YtoofbgoeipijcaaDoorRows.lean that lists a variable, with what it lists TIED to the program's text (the seventh form; the later family's looks); each row that meets fmt, with fmt's text TOLD by the authors' own Lean function (tested against real Go, not proved from fmt's source: count such statements apart). THE CARD IS WHAT COUNTS. Prove the row's statement (the work); the ties are given (YtoofbgoeipijcaaDoorTie.lean); close each card by the builder's one call (the guide's Derived/Test/ToyasCard.lean, 'card_holds'). Laid BY PROGRAM, IN A SANDBOX (cutbox-door.mjs). By AI agents, Wed Nov 11 2026. No macro, syntax, notation, axiom, sorry.
-/
import Derived.Test.YtoofbgoeipijcaaDoorRows
import GoSem.ClaimSeven
namespace Go.Proofs.YtoofbgoeipijcaaDoor
namespace Rows

/-- THE TIED CARD OF 'weepholelaw24.PrintInstrs'. -/
def printInstrsCard : Claim7 := { stood := { row := printInstrsRow, standIns := [], harness := (true, "8036313faf72419989257096b6a94f7146b2b26d7e5cd6501753d332a6c6b359"), looks := true }, kinds := [], alts := [], laidByText := true, laidKinds := [.data, .data, .data, .widerDeep, .data], laidTests := true, laidLooks := .later }
def PrintInstrsCardSaid : Prop := Claim7.holds Tryd.pinned (.plain (OpenSpec.ofChange printInstrsSpec)) printInstrsCard

/-- THE TIED CARD OF 'weepholelaw24.PrintApart'. -/
def printApartCard : Claim7 := { stood := { row := printApartRow, standIns := [], harness := (true, "8036313faf72419989257096b6a94f7146b2b26d7e5cd6501753d332a6c6b359"), looks := true }, kinds := [], alts := [], laidByText := true, laidKinds := [.data, .data, .data, .widerDeep, .data], laidTests := true, laidLooks := .later }
def PrintApartCardSaid : Prop := Claim7.holds Tryd.pinned (.plain (OpenSpec.ofChange printApartSpec)) printApartCard

/-- THE TIED CARD OF 'weepholelaw24.PrintLines'. -/
def printLinesCard : Claim7 := { stood := { row := printLinesRow, standIns := [], harness := (true, "8036313faf72419989257096b6a94f7146b2b26d7e5cd6501753d332a6c6b359"), looks := true }, kinds := [], alts := [], laidByText := true, laidKinds := [.data, .data, .data, .data, .widerDeep, .data, .pinned], laidTests := true, laidLooks := .later }
def PrintLinesCardSaid : Prop := Claim7.holds Tryd.pinned (.plain (OpenSpec.ofChange printLinesSpec)) printLinesCard

/-- THE SECOND FORM's CARD OF 'weepholelaw24.PrintInstrs'. -/
def printInstrsUptoCard : Claim7 := { stood := { row := printInstrsUptoRow, standIns := [], harness := (true, "8036313faf72419989257096b6a94f7146b2b26d7e5cd6501753d332a6c6b359"), looks := true }, kinds := [], alts := [], laidByText := true, laidKinds := [.data, .data, .data, .widerDeep, .data], laidTests := true, laidLooks := .later }
def PrintInstrsUptoCardSaid : Prop := Claim7.holds Tryd.pinned (.plain (OpenSpec.upto printInstrsSpec)) printInstrsUptoCard

/-- THE SECOND FORM's CARD OF 'weepholelaw24.PrintApart'. -/
def printApartUptoCard : Claim7 := { stood := { row := printApartUptoRow, standIns := [], harness := (true, "8036313faf72419989257096b6a94f7146b2b26d7e5cd6501753d332a6c6b359"), looks := true }, kinds := [], alts := [], laidByText := true, laidKinds := [.data, .data, .data, .widerDeep, .data], laidTests := true, laidLooks := .later }
def PrintApartUptoCardSaid : Prop := Claim7.holds Tryd.pinned (.plain (OpenSpec.upto printApartSpec)) printApartUptoCard

/-- THE SECOND FORM's CARD OF 'weepholelaw24.PrintLines'. -/
def printLinesUptoCard : Claim7 := { stood := { row := printLinesUptoRow, standIns := [], harness := (true, "8036313faf72419989257096b6a94f7146b2b26d7e5cd6501753d332a6c6b359"), looks := true }, kinds := [], alts := [], laidByText := true, laidKinds := [.data, .data, .data, .data, .widerDeep, .data, .pinned], laidTests := true, laidLooks := .later }
def PrintLinesUptoCardSaid : Prop := Claim7.holds Tryd.pinned (.plain (OpenSpec.upto printLinesSpec)) printLinesUptoCard
end Rows
end Go.Proofs.YtoofbgoeipijcaaDoor
