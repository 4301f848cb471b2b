/-
  DERIVED. GIVEN WITH THE SEED: THE CARDS: each row of YtoofbgoeipijcaaGreatDoorRows.lean that lists a variable, with what it lists TIED to the program's text (the seventh form; the later family's looks); each row that meets fmt, with fmt's text TOLD by the authors' own Lean function (tested against real Go, not proved from fmt's source: count such statements apart). THE CARD IS WHAT COUNTS. Prove the row's statement (the work); the ties are given (YtoofbgoeipijcaaGreatDoorTie.lean); close each card by the builder's one call (the guide's Derived/Test/ToyasCard.lean, 'card_holds'). Laid BY PROGRAM, IN A SANDBOX (cutbox-door.mjs). By AI agents, Wed Nov 11 2026. No macro, syntax, notation, axiom, sorry.
-/
import Derived.Test.YtoofbgoeipijcaaGreatDoorRows
import GoSem.ClaimSeven
namespace Go.Proofs.YtoofbgoeipijcaaGreatDoor
namespace Rows

/-- THE TIED CARD OF 'weepholelaw24.PrintTexts'. -/
def printTextsCard : Claim7 := { stood := { row := printTextsRow, standIns := [], harness := (true, "f20cdba79d233a477e21e4f76d7378bf139f310bfe57630b89c91826424f48aa"), looks := true }, kinds := [], alts := [], laidByText := true, laidKinds := [.data, .data, .data, .widerDeep, .data], laidTests := true, laidLooks := .later }
def PrintTextsCardSaid : Prop := Claim7.holds Tryz.pinned (.plain (OpenSpec.ofChange printTextsSpec)) printTextsCard

/-- THE TIED CARD OF 'weepholelaw24.PrintExamples'. -/
def printExamplesCard : Claim7 := { stood := { row := printExamplesRow, standIns := [], harness := (true, "f20cdba79d233a477e21e4f76d7378bf139f310bfe57630b89c91826424f48aa"), looks := true }, kinds := [], alts := [], laidByText := true, laidKinds := [.data, .data, .data, .widerDeep, .data], laidTests := true, laidLooks := .later }
def PrintExamplesCardSaid : Prop := Claim7.holds Tryz.pinned (.plain (OpenSpec.ofChange printExamplesSpec)) printExamplesCard

/-- THE TIED CARD OF 'weepholelaw23.ParseExamples'. -/
def parseExamplesCard : Claim7 := { stood := { row := parseExamplesRow, standIns := [], harness := (true, "f20cdba79d233a477e21e4f76d7378bf139f310bfe57630b89c91826424f48aa"), looks := true }, kinds := [], alts := [], laidByText := true, laidKinds := [.data, .widerDeep, .data, .pinned], laidTests := true, laidLooks := .later }
def ParseExamplesCardSaid : Prop := Claim7.holds Tryz.pinned (.plain (OpenSpec.ofChange parseExamplesSpec)) parseExamplesCard

/-- THE TIED CARD OF 'weepholelaw23.ParseNumbers'. -/
def parseNumbersCard : Claim7 := { stood := { row := parseNumbersRow, standIns := [], harness := (true, "f20cdba79d233a477e21e4f76d7378bf139f310bfe57630b89c91826424f48aa"), looks := true }, kinds := [], alts := [], laidByText := true, laidKinds := [.data, .widerDeep, .data, .pinned], laidTests := true, laidLooks := .later }
def ParseNumbersCardSaid : Prop := Claim7.holds Tryz.pinned (.plain (OpenSpec.ofChange parseNumbersSpec)) parseNumbersCard

/-- THE TIED CARD OF 'weepholelaw23.ParseSpread'. -/
def parseSpreadCard : Claim7 := { stood := { row := parseSpreadRow, standIns := [], harness := (true, "f20cdba79d233a477e21e4f76d7378bf139f310bfe57630b89c91826424f48aa"), looks := true }, kinds := [], alts := [], laidByText := true, laidKinds := [.data, .widerDeep, .data, .pinned], laidTests := true, laidLooks := .later }
def ParseSpreadCardSaid : Prop := Claim7.holds Tryz.pinned (.plain (OpenSpec.ofChange parseSpreadSpec)) parseSpreadCard

/-- THE TIED CARD OF 'weepholelaw23.ParseGood'. -/
def parseGoodCard : Claim7 := { stood := { row := parseGoodRow, standIns := [], harness := (true, "f20cdba79d233a477e21e4f76d7378bf139f310bfe57630b89c91826424f48aa"), looks := true }, kinds := [], alts := [], laidByText := true, laidKinds := [.data, .widerDeep, .data, .pinned], laidTests := true, laidLooks := .later }
def ParseGoodCardSaid : Prop := Claim7.holds Tryz.pinned (.plain (OpenSpec.ofChange parseGoodSpec)) parseGoodCard

/-- THE TIED CARD OF 'weepholelaw23.ParsePrefix'. -/
def parsePrefixCard : Claim7 := { stood := { row := parsePrefixRow, standIns := [], harness := (true, "f20cdba79d233a477e21e4f76d7378bf139f310bfe57630b89c91826424f48aa"), looks := true }, kinds := [], alts := [], laidByText := true, laidKinds := [.data, .widerDeep, .data, .pinned], laidTests := true, laidLooks := .later }
def ParsePrefixCardSaid : Prop := Claim7.holds Tryz.pinned (.plain (OpenSpec.ofChange parsePrefixSpec)) parsePrefixCard

/-- THE TIED CARD OF 'weepholelaw24.PrintBack'. -/
def printBackCard : Claim7 := { stood := { row := printBackRow, standIns := [], harness := (true, "f20cdba79d233a477e21e4f76d7378bf139f310bfe57630b89c91826424f48aa"), looks := true }, kinds := [], alts := [], laidByText := true, laidKinds := [.data, .data, .data, .widerDeep, .data], laidTests := true, laidLooks := .later }
def PrintBackCardSaid : Prop := Claim7.holds Tryz.pinned (.plain (OpenSpec.ofChange printBackSpec)) printBackCard

/-- THE TIED CARD OF 'weepholelaw24.PrintAgain'. -/
def printAgainCard : Claim7 := { stood := { row := printAgainRow, standIns := [], harness := (true, "f20cdba79d233a477e21e4f76d7378bf139f310bfe57630b89c91826424f48aa"), looks := true }, kinds := [], alts := [], laidByText := true, laidKinds := [.data, .data, .data, .widerDeep, .data], laidTests := true, laidLooks := .later }
def PrintAgainCardSaid : Prop := Claim7.holds Tryz.pinned (.plain (OpenSpec.ofChange printAgainSpec)) printAgainCard

/-- THE SECOND FORM's CARD OF 'weepholelaw24.PrintTexts'. -/
def printTextsUptoCard : Claim7 := { stood := { row := printTextsUptoRow, standIns := [], harness := (true, "f20cdba79d233a477e21e4f76d7378bf139f310bfe57630b89c91826424f48aa"), looks := true }, kinds := [], alts := [], laidByText := true, laidKinds := [.data, .data, .data, .widerDeep, .data], laidTests := true, laidLooks := .later }
def PrintTextsUptoCardSaid : Prop := Claim7.holds Tryz.pinned (.plain (OpenSpec.upto printTextsSpec)) printTextsUptoCard

/-- THE SECOND FORM's CARD OF 'weepholelaw24.PrintExamples'. -/
def printExamplesUptoCard : Claim7 := { stood := { row := printExamplesUptoRow, standIns := [], harness := (true, "f20cdba79d233a477e21e4f76d7378bf139f310bfe57630b89c91826424f48aa"), looks := true }, kinds := [], alts := [], laidByText := true, laidKinds := [.data, .data, .data, .widerDeep, .data], laidTests := true, laidLooks := .later }
def PrintExamplesUptoCardSaid : Prop := Claim7.holds Tryz.pinned (.plain (OpenSpec.upto printExamplesSpec)) printExamplesUptoCard

/-- THE SECOND FORM's CARD OF 'weepholelaw23.ParseExamples'. -/
def parseExamplesUptoCard : Claim7 := { stood := { row := parseExamplesUptoRow, standIns := [], harness := (true, "f20cdba79d233a477e21e4f76d7378bf139f310bfe57630b89c91826424f48aa"), looks := true }, kinds := [], alts := [], laidByText := true, laidKinds := [.data, .widerDeep, .data, .pinned], laidTests := true, laidLooks := .later }
def ParseExamplesUptoCardSaid : Prop := Claim7.holds Tryz.pinned (.plain (OpenSpec.upto parseExamplesSpec)) parseExamplesUptoCard

/-- THE SECOND FORM's CARD OF 'weepholelaw23.ParseNumbers'. -/
def parseNumbersUptoCard : Claim7 := { stood := { row := parseNumbersUptoRow, standIns := [], harness := (true, "f20cdba79d233a477e21e4f76d7378bf139f310bfe57630b89c91826424f48aa"), looks := true }, kinds := [], alts := [], laidByText := true, laidKinds := [.data, .widerDeep, .data, .pinned], laidTests := true, laidLooks := .later }
def ParseNumbersUptoCardSaid : Prop := Claim7.holds Tryz.pinned (.plain (OpenSpec.upto parseNumbersSpec)) parseNumbersUptoCard

/-- THE SECOND FORM's CARD OF 'weepholelaw23.ParseSpread'. -/
def parseSpreadUptoCard : Claim7 := { stood := { row := parseSpreadUptoRow, standIns := [], harness := (true, "f20cdba79d233a477e21e4f76d7378bf139f310bfe57630b89c91826424f48aa"), looks := true }, kinds := [], alts := [], laidByText := true, laidKinds := [.data, .widerDeep, .data, .pinned], laidTests := true, laidLooks := .later }
def ParseSpreadUptoCardSaid : Prop := Claim7.holds Tryz.pinned (.plain (OpenSpec.upto parseSpreadSpec)) parseSpreadUptoCard

/-- THE SECOND FORM's CARD OF 'weepholelaw23.ParseGood'. -/
def parseGoodUptoCard : Claim7 := { stood := { row := parseGoodUptoRow, standIns := [], harness := (true, "f20cdba79d233a477e21e4f76d7378bf139f310bfe57630b89c91826424f48aa"), looks := true }, kinds := [], alts := [], laidByText := true, laidKinds := [.data, .widerDeep, .data, .pinned], laidTests := true, laidLooks := .later }
def ParseGoodUptoCardSaid : Prop := Claim7.holds Tryz.pinned (.plain (OpenSpec.upto parseGoodSpec)) parseGoodUptoCard

/-- THE SECOND FORM's CARD OF 'weepholelaw23.ParsePrefix'. -/
def parsePrefixUptoCard : Claim7 := { stood := { row := parsePrefixUptoRow, standIns := [], harness := (true, "f20cdba79d233a477e21e4f76d7378bf139f310bfe57630b89c91826424f48aa"), looks := true }, kinds := [], alts := [], laidByText := true, laidKinds := [.data, .widerDeep, .data, .pinned], laidTests := true, laidLooks := .later }
def ParsePrefixUptoCardSaid : Prop := Claim7.holds Tryz.pinned (.plain (OpenSpec.upto parsePrefixSpec)) parsePrefixUptoCard

/-- THE SECOND FORM's CARD OF 'weepholelaw24.PrintBack'. -/
def printBackUptoCard : Claim7 := { stood := { row := printBackUptoRow, standIns := [], harness := (true, "f20cdba79d233a477e21e4f76d7378bf139f310bfe57630b89c91826424f48aa"), looks := true }, kinds := [], alts := [], laidByText := true, laidKinds := [.data, .data, .data, .widerDeep, .data], laidTests := true, laidLooks := .later }
def PrintBackUptoCardSaid : Prop := Claim7.holds Tryz.pinned (.plain (OpenSpec.upto printBackSpec)) printBackUptoCard

/-- THE SECOND FORM's CARD OF 'weepholelaw24.PrintAgain'. -/
def printAgainUptoCard : Claim7 := { stood := { row := printAgainUptoRow, standIns := [], harness := (true, "f20cdba79d233a477e21e4f76d7378bf139f310bfe57630b89c91826424f48aa"), looks := true }, kinds := [], alts := [], laidByText := true, laidKinds := [.data, .data, .data, .widerDeep, .data], laidTests := true, laidLooks := .later }
def PrintAgainUptoCardSaid : Prop := Claim7.holds Tryz.pinned (.plain (OpenSpec.upto printAgainSpec)) printAgainUptoCard
end Rows
end Go.Proofs.YtoofbgoeipijcaaGreatDoor
