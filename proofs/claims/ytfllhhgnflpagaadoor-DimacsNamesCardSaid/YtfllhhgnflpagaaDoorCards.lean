/-
  DERIVED. GIVEN WITH THE SEED: THE CARDS: each row of YtfllhhgnflpagaaDoorRows.lean that lists a variable, with what it lists TIED to the program's text (the seventh form; the later family's looks); each row that meets fmt, with fmt's text TOLD by the authors' own Lean function (tested against real Go, not proved from fmt's source: count such statements apart). THE CARD IS WHAT COUNTS. Prove the row's statement (the work); the ties are given (YtfllhhgnflpagaaDoorTie.lean); close each card by the builder's one call (the guide's Derived/Test/ToyasCard.lean, 'card_holds'). Laid BY PROGRAM, IN A SANDBOX (cutbox-door.mjs). By AI agents, Wed Nov 11 2026. No macro, syntax, notation, axiom, sorry.
-/
import Derived.Test.YtfllhhgnflpagaaDoorRows
import GoSem.ClaimSeven
namespace Go.Proofs.YtfllhhgnflpagaaDoor
namespace Rows

/-- THE TIED CARD OF 'weepholelaw03.DimacsFormats'. -/
def dimacsFormatsCard : Claim7 := { stood := { row := dimacsFormatsRow, standIns := [], harness := (true, "20805b62c6369e3b7d5a863a0cd516ea3f034df5fa4be31eafb3c7ec479c8a48"), looks := true }, kinds := [], alts := [], laidByText := true, laidKinds := [.data, .data, .data, .data, .sentinel, .sentinel, .pinned], laidTests := true, laidLooks := .later }
def DimacsFormatsCardSaid : Prop := Claim7.holds Tryd.pinned (.plain (OpenSpec.ofChange dimacsFormatsSpec)) dimacsFormatsCard

/-- THE TIED CARD OF 'weepholelaw03.DimacsParses'. -/
def dimacsParsesCard : Claim7 := { stood := { row := dimacsParsesRow, standIns := [], harness := (true, "20805b62c6369e3b7d5a863a0cd516ea3f034df5fa4be31eafb3c7ec479c8a48"), looks := true }, kinds := [], alts := [], laidByText := true, laidKinds := [.data, .data, .data, .data, .sentinel, .sentinel, .pinned], laidTests := true, laidLooks := .later }
def DimacsParsesCardSaid : Prop := Claim7.holds Tryd.pinned (.plain (OpenSpec.ofChange dimacsParsesSpec)) dimacsParsesCard

/-- THE TIED CARD OF 'weepholelaw03.DimacsNames'. -/
def dimacsNamesCard : Claim7 := { stood := { row := dimacsNamesRow, standIns := [], harness := (true, "20805b62c6369e3b7d5a863a0cd516ea3f034df5fa4be31eafb3c7ec479c8a48"), looks := true }, kinds := [], alts := [], laidByText := true, laidKinds := [.data, .data, .data, .data, .sentinel, .sentinel, .pinned], laidTests := true, laidLooks := .later }
def DimacsNamesCardSaid : Prop := Claim7.holds Tryd.pinned (.plain (OpenSpec.ofChange dimacsNamesSpec)) dimacsNamesCard

/-- THE TIED CARD OF 'weepholelaw03.DimacsBack'. -/
def dimacsBackCard : Claim7 := { stood := { row := dimacsBackRow, standIns := [], harness := (true, "20805b62c6369e3b7d5a863a0cd516ea3f034df5fa4be31eafb3c7ec479c8a48"), looks := true }, kinds := [], alts := [], laidByText := true, laidKinds := [.data, .data, .data, .data, .sentinel, .sentinel, .pinned], laidTests := true, laidLooks := .later }
def DimacsBackCardSaid : Prop := Claim7.holds Tryd.pinned (.plain (OpenSpec.ofChange dimacsBackSpec)) dimacsBackCard

/-- THE TIED CARD OF 'weepholelaw03.DimacsValid'. -/
def dimacsValidCard : Claim7 := { stood := { row := dimacsValidRow, standIns := [], harness := (true, "20805b62c6369e3b7d5a863a0cd516ea3f034df5fa4be31eafb3c7ec479c8a48"), looks := true }, kinds := [], alts := [], laidByText := true, laidKinds := [.data, .data, .data, .data, .sentinel, .sentinel, .pinned], laidTests := true, laidLooks := .later }
def DimacsValidCardSaid : Prop := Claim7.holds Tryd.pinned (.plain (OpenSpec.ofChange dimacsValidSpec)) dimacsValidCard

/-- THE TIED CARD OF 'weepholelaw03.DimacsBlank'. -/
def dimacsBlankCard : Claim7 := { stood := { row := dimacsBlankRow, standIns := [], harness := (true, "20805b62c6369e3b7d5a863a0cd516ea3f034df5fa4be31eafb3c7ec479c8a48"), looks := true }, kinds := [], alts := [], laidByText := true, laidKinds := [.data, .data, .data, .data, .sentinel, .sentinel, .pinned], laidTests := true, laidLooks := .later }
def DimacsBlankCardSaid : Prop := Claim7.holds Tryd.pinned (.plain (OpenSpec.ofChange dimacsBlankSpec)) dimacsBlankCard

/-- THE TIED CARD OF 'weepholelaw03.DimacsSame'. -/
def dimacsSameCard : Claim7 := { stood := { row := dimacsSameRow, standIns := [], harness := (true, "20805b62c6369e3b7d5a863a0cd516ea3f034df5fa4be31eafb3c7ec479c8a48"), looks := true }, kinds := [], alts := [], laidByText := true, laidKinds := [.data, .data, .data, .data, .sentinel, .sentinel, .pinned], laidTests := true, laidLooks := .later }
def DimacsSameCardSaid : Prop := Claim7.holds Tryd.pinned (.plain (OpenSpec.ofChange dimacsSameSpec)) dimacsSameCard

/-- THE TIED CARD OF 'weepholelaw03.DimacsEnds'. -/
def dimacsEndsCard : Claim7 := { stood := { row := dimacsEndsRow, standIns := [], harness := (true, "20805b62c6369e3b7d5a863a0cd516ea3f034df5fa4be31eafb3c7ec479c8a48"), looks := true }, kinds := [], alts := [], laidByText := true, laidKinds := [.data, .data, .data, .data, .sentinel, .sentinel, .pinned], laidTests := true, laidLooks := .later }
def DimacsEndsCardSaid : Prop := Claim7.holds Tryd.pinned (.plain (OpenSpec.ofChange dimacsEndsSpec)) dimacsEndsCard

/-- THE SECOND FORM's CARD OF 'weepholelaw03.DimacsFormats'. -/
def dimacsFormatsUptoCard : Claim7 := { stood := { row := dimacsFormatsUptoRow, standIns := [], harness := (true, "20805b62c6369e3b7d5a863a0cd516ea3f034df5fa4be31eafb3c7ec479c8a48"), looks := true }, kinds := [], alts := [], laidByText := true, laidKinds := [.data, .data, .data, .data, .sentinel, .sentinel, .pinned], laidTests := true, laidLooks := .later }
def DimacsFormatsUptoCardSaid : Prop := Claim7.holds Tryd.pinned (.plain (OpenSpec.upto dimacsFormatsSpec)) dimacsFormatsUptoCard

/-- THE SECOND FORM's CARD OF 'weepholelaw03.DimacsParses'. -/
def dimacsParsesUptoCard : Claim7 := { stood := { row := dimacsParsesUptoRow, standIns := [], harness := (true, "20805b62c6369e3b7d5a863a0cd516ea3f034df5fa4be31eafb3c7ec479c8a48"), looks := true }, kinds := [], alts := [], laidByText := true, laidKinds := [.data, .data, .data, .data, .sentinel, .sentinel, .pinned], laidTests := true, laidLooks := .later }
def DimacsParsesUptoCardSaid : Prop := Claim7.holds Tryd.pinned (.plain (OpenSpec.upto dimacsParsesSpec)) dimacsParsesUptoCard

/-- THE SECOND FORM's CARD OF 'weepholelaw03.DimacsNames'. -/
def dimacsNamesUptoCard : Claim7 := { stood := { row := dimacsNamesUptoRow, standIns := [], harness := (true, "20805b62c6369e3b7d5a863a0cd516ea3f034df5fa4be31eafb3c7ec479c8a48"), looks := true }, kinds := [], alts := [], laidByText := true, laidKinds := [.data, .data, .data, .data, .sentinel, .sentinel, .pinned], laidTests := true, laidLooks := .later }
def DimacsNamesUptoCardSaid : Prop := Claim7.holds Tryd.pinned (.plain (OpenSpec.upto dimacsNamesSpec)) dimacsNamesUptoCard

/-- THE SECOND FORM's CARD OF 'weepholelaw03.DimacsBack'. -/
def dimacsBackUptoCard : Claim7 := { stood := { row := dimacsBackUptoRow, standIns := [], harness := (true, "20805b62c6369e3b7d5a863a0cd516ea3f034df5fa4be31eafb3c7ec479c8a48"), looks := true }, kinds := [], alts := [], laidByText := true, laidKinds := [.data, .data, .data, .data, .sentinel, .sentinel, .pinned], laidTests := true, laidLooks := .later }
def DimacsBackUptoCardSaid : Prop := Claim7.holds Tryd.pinned (.plain (OpenSpec.upto dimacsBackSpec)) dimacsBackUptoCard

/-- THE SECOND FORM's CARD OF 'weepholelaw03.DimacsValid'. -/
def dimacsValidUptoCard : Claim7 := { stood := { row := dimacsValidUptoRow, standIns := [], harness := (true, "20805b62c6369e3b7d5a863a0cd516ea3f034df5fa4be31eafb3c7ec479c8a48"), looks := true }, kinds := [], alts := [], laidByText := true, laidKinds := [.data, .data, .data, .data, .sentinel, .sentinel, .pinned], laidTests := true, laidLooks := .later }
def DimacsValidUptoCardSaid : Prop := Claim7.holds Tryd.pinned (.plain (OpenSpec.upto dimacsValidSpec)) dimacsValidUptoCard

/-- THE SECOND FORM's CARD OF 'weepholelaw03.DimacsBlank'. -/
def dimacsBlankUptoCard : Claim7 := { stood := { row := dimacsBlankUptoRow, standIns := [], harness := (true, "20805b62c6369e3b7d5a863a0cd516ea3f034df5fa4be31eafb3c7ec479c8a48"), looks := true }, kinds := [], alts := [], laidByText := true, laidKinds := [.data, .data, .data, .data, .sentinel, .sentinel, .pinned], laidTests := true, laidLooks := .later }
def DimacsBlankUptoCardSaid : Prop := Claim7.holds Tryd.pinned (.plain (OpenSpec.upto dimacsBlankSpec)) dimacsBlankUptoCard

/-- THE SECOND FORM's CARD OF 'weepholelaw03.DimacsSame'. -/
def dimacsSameUptoCard : Claim7 := { stood := { row := dimacsSameUptoRow, standIns := [], harness := (true, "20805b62c6369e3b7d5a863a0cd516ea3f034df5fa4be31eafb3c7ec479c8a48"), looks := true }, kinds := [], alts := [], laidByText := true, laidKinds := [.data, .data, .data, .data, .sentinel, .sentinel, .pinned], laidTests := true, laidLooks := .later }
def DimacsSameUptoCardSaid : Prop := Claim7.holds Tryd.pinned (.plain (OpenSpec.upto dimacsSameSpec)) dimacsSameUptoCard

/-- THE SECOND FORM's CARD OF 'weepholelaw03.DimacsEnds'. -/
def dimacsEndsUptoCard : Claim7 := { stood := { row := dimacsEndsUptoRow, standIns := [], harness := (true, "20805b62c6369e3b7d5a863a0cd516ea3f034df5fa4be31eafb3c7ec479c8a48"), looks := true }, kinds := [], alts := [], laidByText := true, laidKinds := [.data, .data, .data, .data, .sentinel, .sentinel, .pinned], laidTests := true, laidLooks := .later }
def DimacsEndsUptoCardSaid : Prop := Claim7.holds Tryd.pinned (.plain (OpenSpec.upto dimacsEndsSpec)) dimacsEndsUptoCard
end Rows
end Go.Proofs.YtfllhhgnflpagaaDoor
