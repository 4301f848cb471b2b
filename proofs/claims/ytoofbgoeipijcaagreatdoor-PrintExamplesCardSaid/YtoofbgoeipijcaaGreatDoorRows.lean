/-
  NARROWER THAN 'FOR EVERY INPUT', by the rows' own cells (each row's printed sentence says how): PrintTexts: laid · PrintExamples: laid · ParseExamples: laid · ParseNumbers: laid · ParseSpread: laid · ParseGood: laid · ParsePrefix: laid · PrintBack: laid · PrintAgain: laid.
  DERIVED. THE GIVEN ROWS OF THIS SEAT. 9 by the template 'for every input the law returns true; each argument reads behind the call as it read before'; 0 by the template 'total and deterministic' (their statements: YtoofbgoeipijcaaGreatDoorTotals.lean).
  GIVEN WITH THE SEED: the statements are not yours to turn. If you find one false, say at which input.
  Laid BY PROGRAM, IN A SANDBOX (cutbox-rows.mjs): the forced cells as the released guide's own fill.sh prints them over the translation c21baca88fb67b90… (all of the seat's roots in one cut). By AI agents, Wed Nov 11 2026. No macro, syntax, notation, axiom, sorry.
-/
import Derived.Test.YtoofbgoeipijcaaGreatDoorChecked
import GoSem.PinnedTables
import GoSem.Claim
import GoSem.ClaimJoined
import GoSem.ClaimMapViews
import Derived.JoinedTies
import Derived.KernelRfl
namespace Go.Proofs.YtoofbgoeipijcaaGreatDoor
/- THE CELL 'sum', in the pinned program and in every row, IS THE sha256 OF THE DUMP (.gsa) THAT YtoofbgoeipijcaaGreatDoorProg.lean LOADS. Nothing in Lean hashes anything: it is a label: what it is worth is what the hold of that sum in a sandbox is worth. -/
noncomputable def Tryz.pinned : Pinned := { name := "ytoofbgoeipijcaagreatdoor", sum := "c21baca88fb67b908ae21afedfdd9e6864f3c9eb88ff9a89dea2edee6f737132", checked := Tryz.checked }
namespace Rows
def none {H : Type} : Left H := { results := [], args := [] }

/- WHAT THE LISTED PACKAGE-LEVEL VARIABLES READ AS WHEN THE CALL BEGINS. Each datum BY PROGRAM (the guide's laid-datum.mjs) off the statement by which the dump's own 'gosem.cut.vars' lays the variable. In a bare row this is a premise. The card (YtoofbgoeipijcaaGreatDoorCards.lean) ties it to the program's text. -/
def laid_math_bits_deBruijn32tab {H : Type} : DataW H := .agg [.lit (.int .u8 0), .lit (.int .u8 1), .lit (.int .u8 28), .lit (.int .u8 2), .lit (.int .u8 29), .lit (.int .u8 14), .lit (.int .u8 24), .lit (.int .u8 3), .lit (.int .u8 30), .lit (.int .u8 22), .lit (.int .u8 20), .lit (.int .u8 15), .lit (.int .u8 25), .lit (.int .u8 17), .lit (.int .u8 4), .lit (.int .u8 8), .lit (.int .u8 31), .lit (.int .u8 27), .lit (.int .u8 13), .lit (.int .u8 23), .lit (.int .u8 21), .lit (.int .u8 19), .lit (.int .u8 16), .lit (.int .u8 7), .lit (.int .u8 26), .lit (.int .u8 12), .lit (.int .u8 18), .lit (.int .u8 6), .lit (.int .u8 11), .lit (.int .u8 5), .lit (.int .u8 10), .lit (.int .u8 9)]
def laid_math_bits_deBruijn64tab {H : Type} : DataW H := .agg [.lit (.int .u8 0), .lit (.int .u8 1), .lit (.int .u8 56), .lit (.int .u8 2), .lit (.int .u8 57), .lit (.int .u8 49), .lit (.int .u8 28), .lit (.int .u8 3), .lit (.int .u8 61), .lit (.int .u8 58), .lit (.int .u8 42), .lit (.int .u8 50), .lit (.int .u8 38), .lit (.int .u8 29), .lit (.int .u8 17), .lit (.int .u8 4), .lit (.int .u8 62), .lit (.int .u8 47), .lit (.int .u8 59), .lit (.int .u8 36), .lit (.int .u8 45), .lit (.int .u8 43), .lit (.int .u8 51), .lit (.int .u8 22), .lit (.int .u8 53), .lit (.int .u8 39), .lit (.int .u8 33), .lit (.int .u8 30), .lit (.int .u8 24), .lit (.int .u8 18), .lit (.int .u8 12), .lit (.int .u8 5), .lit (.int .u8 63), .lit (.int .u8 55), .lit (.int .u8 48), .lit (.int .u8 27), .lit (.int .u8 60), .lit (.int .u8 41), .lit (.int .u8 37), .lit (.int .u8 16), .lit (.int .u8 46), .lit (.int .u8 35), .lit (.int .u8 44), .lit (.int .u8 21), .lit (.int .u8 52), .lit (.int .u8 32), .lit (.int .u8 23), .lit (.int .u8 11), .lit (.int .u8 54), .lit (.int .u8 26), .lit (.int .u8 40), .lit (.int .u8 15), .lit (.int .u8 34), .lit (.int .u8 20), .lit (.int .u8 31), .lit (.int .u8 10), .lit (.int .u8 25), .lit (.int .u8 14), .lit (.int .u8 19), .lit (.int .u8 9), .lit (.int .u8 13), .lit (.int .u8 8), .lit (.int .u8 7), .lit (.int .u8 6)]
def laid_internal_strconv_uint64pow10 {H : Type} : DataW H := .agg [.lit (.int .u64 1), .lit (.int .u64 10), .lit (.int .u64 100), .lit (.int .u64 1000), .lit (.int .u64 10000), .lit (.int .u64 100000), .lit (.int .u64 1000000), .lit (.int .u64 10000000), .lit (.int .u64 100000000), .lit (.int .u64 1000000000), .lit (.int .u64 10000000000), .lit (.int .u64 100000000000), .lit (.int .u64 1000000000000), .lit (.int .u64 10000000000000), .lit (.int .u64 100000000000000), .lit (.int .u64 1000000000000000), .lit (.int .u64 10000000000000000), .lit (.int .u64 100000000000000000), .lit (.int .u64 1000000000000000000), .lit (.int .u64 10000000000000000000)]
def laid_weephole_prog_keywords {H : Type} : DataW H := .slice [.lit (.string [119, 105, 100, 116, 104]), .lit (.string [99, 104, 97, 110]), .lit (.string [97, 114, 114, 97, 121]), .lit (.string [102, 117, 110, 99]), .lit (.string [109, 97, 105, 110]), .lit (.string [101, 110, 100]), .lit (.string [108, 111, 97, 100]), .lit (.string [115, 116, 111, 114, 101]), .lit (.string [99, 97, 108, 108]), .lit (.string [105, 110]), .lit (.string [111, 117, 116]), .lit (.string [114, 101, 108, 101, 97, 115, 101]), .lit (.string [106, 117, 109, 112]), .lit (.string [105, 102]), .lit (.string [104, 97, 108, 116]), .lit (.string [114, 101, 116])] []
def laid_weephole_prog_forms {H : Type} : DataW H := .agg [.agg [.lit (.bool true), .lit (.bool false), .lit (.int .i64 1)], .agg [.lit (.bool true), .lit (.bool false), .lit (.int .i64 0)], .agg [.lit (.bool true), .lit (.bool true), .lit (.int .i64 1)], .agg [.lit (.bool false), .lit (.bool true), .lit (.int .i64 2)], .agg [.lit (.bool true), .lit (.bool true), .lit (.int .i64 (-1))], .agg [.lit (.bool true), .lit (.bool true), .lit (.int .i64 0)], .agg [.lit (.bool false), .lit (.bool true), .lit (.int .i64 1)], .agg [.lit (.bool true), .lit (.bool true), .lit (.int .i64 1)], .agg [.lit (.bool false), .lit (.bool true), .lit (.int .i64 0)], .agg [.lit (.bool false), .lit (.bool true), .lit (.int .i64 1)], .agg [.lit (.bool false), .lit (.bool true), .lit (.int .i64 0)], .agg [.lit (.bool false), .lit (.bool false), .lit (.int .i64 0)], .agg [.lit (.bool false), .lit (.bool false), .lit (.int .i64 1)]]
def laid_unicode_utf8_acceptRanges {H : Type} : DataW H := .agg [.agg [.lit (.int .u8 128), .lit (.int .u8 191)], .agg [.lit (.int .u8 160), .lit (.int .u8 191)], .agg [.lit (.int .u8 128), .lit (.int .u8 159)], .agg [.lit (.int .u8 144), .lit (.int .u8 191)], .agg [.lit (.int .u8 128), .lit (.int .u8 143)], .agg [.lit (.int .u8 0), .lit (.int .u8 0)], .agg [.lit (.int .u8 0), .lit (.int .u8 0)], .agg [.lit (.int .u8 0), .lit (.int .u8 0)], .agg [.lit (.int .u8 0), .lit (.int .u8 0)], .agg [.lit (.int .u8 0), .lit (.int .u8 0)], .agg [.lit (.int .u8 0), .lit (.int .u8 0)], .agg [.lit (.int .u8 0), .lit (.int .u8 0)], .agg [.lit (.int .u8 0), .lit (.int .u8 0)], .agg [.lit (.int .u8 0), .lit (.int .u8 0)], .agg [.lit (.int .u8 0), .lit (.int .u8 0)], .agg [.lit (.int .u8 0), .lit (.int .u8 0)]]
/-- One of Go's own tables, pinned by name: the form's constant. -/
def laid_unicode_utf8_first : DataW Unit := Go.Pinned.utf8First

/-- 'weepholelaw24.PrintTexts': WHATEVER THE INPUT: true; the input reads as it did. -/
def printTextsSpec : ChangeSpec := { name := "printTexts", fn := fun _ => fun
  | [d] => { results := [.lit (.bool true)], args := [d] }
  | _ => none }
def printTextsRow : OpenClaim := { program := "ytoofbgoeipijcaagreatdoor", sum := "c21baca88fb67b908ae21afedfdd9e6864f3c9eb88ff9a89dea2edee6f737132", func := "weephole/weepholelaw24.PrintTexts", spec := "printTexts", inPlace := ["internal/abi.NoEscape", "internal/bytealg.MakeNoZero"], unfollowed := true, recurses := true, named := ["weephole/prog.keywords", "weephole/prog.forms", "internal/strconv.uint64pow10", "math/bits.deBruijn32tab", "math/bits.deBruijn64tab"], apart := false, laid := [("math/bits.deBruijn32tab", laid_math_bits_deBruijn32tab), ("math/bits.deBruijn64tab", laid_math_bits_deBruijn64tab), ("internal/strconv.uint64pow10", laid_internal_strconv_uint64pow10), ("weephole/prog.keywords", laid_weephole_prog_keywords), ("weephole/prog.forms", laid_weephole_prog_forms)] }
def PrintTextsSaid : Prop := printTextsRow.holds Tryz.pinned (OpenSpec.ofChange printTextsSpec)

/-- ITS FALSE NEIGHBOUR: 'it returns false'. Refute it at one input. -/
def printTextsWrong : ChangeSpec := { name := "printTexts", fn := fun _ => fun
  | [d] => { results := [.lit (.bool false)], args := [d] }
  | _ => none }
def PrintTextsWrongFalsely : Prop := printTextsRow.holds Tryz.pinned (OpenSpec.ofChange printTextsWrong)

/-- 'weepholelaw24.PrintExamples': WHATEVER THE INPUT: true; the input reads as it did. -/
def printExamplesSpec : ChangeSpec := { name := "printExamples", fn := fun _ => fun
  | [] => { results := [.lit (.bool true)], args := [] }
  | _ => none }
def printExamplesRow : OpenClaim := { program := "ytoofbgoeipijcaagreatdoor", sum := "c21baca88fb67b908ae21afedfdd9e6864f3c9eb88ff9a89dea2edee6f737132", func := "weephole/weepholelaw24.PrintExamples", spec := "printExamples", inPlace := ["internal/abi.NoEscape", "internal/bytealg.MakeNoZero"], unfollowed := true, recurses := true, named := ["internal/strconv.uint64pow10", "math/bits.deBruijn32tab", "math/bits.deBruijn64tab", "weephole/prog.keywords", "weephole/prog.forms"], apart := false, laid := [("math/bits.deBruijn32tab", laid_math_bits_deBruijn32tab), ("math/bits.deBruijn64tab", laid_math_bits_deBruijn64tab), ("internal/strconv.uint64pow10", laid_internal_strconv_uint64pow10), ("weephole/prog.keywords", laid_weephole_prog_keywords), ("weephole/prog.forms", laid_weephole_prog_forms)] }
def PrintExamplesSaid : Prop := printExamplesRow.holds Tryz.pinned (OpenSpec.ofChange printExamplesSpec)

/-- ITS FALSE NEIGHBOUR: 'it returns false'. Refute it at one input. -/
def printExamplesWrong : ChangeSpec := { name := "printExamples", fn := fun _ => fun
  | [] => { results := [.lit (.bool false)], args := [] }
  | _ => none }
def PrintExamplesWrongFalsely : Prop := printExamplesRow.holds Tryz.pinned (OpenSpec.ofChange printExamplesWrong)

/-- 'weepholelaw23.ParseExamples': WHATEVER THE INPUT: true; the input reads as it did. -/
def parseExamplesSpec : ChangeSpec := { name := "parseExamples", fn := fun _ => fun
  | [] => { results := [.lit (.bool true)], args := [] }
  | _ => none }
def parseExamplesRow : OpenClaim := { program := "ytoofbgoeipijcaagreatdoor", sum := "c21baca88fb67b908ae21afedfdd9e6864f3c9eb88ff9a89dea2edee6f737132", func := "weephole/weepholelaw23.ParseExamples", spec := "parseExamples", inPlace := ["internal/bytealg.IndexByteString", "internal/bytealg.IndexString", "internal/bytealg.CountString", "internal/abi.NoEscape", "internal/bytealg.MakeNoZero"], unfollowed := true, recurses := true, named := ["internal/bytealg.MaxLen", "weephole/prog.keywords", "weephole/prog.forms", "unicode/utf8.first", "unicode/utf8.acceptRanges"], apart := false, laid := [("unicode/utf8.acceptRanges", laid_unicode_utf8_acceptRanges), ("weephole/prog.keywords", laid_weephole_prog_keywords), ("weephole/prog.forms", laid_weephole_prog_forms), ("unicode/utf8.first", laid_unicode_utf8_first)] }
def ParseExamplesSaid : Prop := parseExamplesRow.holds Tryz.pinned (OpenSpec.ofChange parseExamplesSpec)

/-- ITS FALSE NEIGHBOUR: 'it returns false'. Refute it at one input. -/
def parseExamplesWrong : ChangeSpec := { name := "parseExamples", fn := fun _ => fun
  | [] => { results := [.lit (.bool false)], args := [] }
  | _ => none }
def ParseExamplesWrongFalsely : Prop := parseExamplesRow.holds Tryz.pinned (OpenSpec.ofChange parseExamplesWrong)

/-- 'weepholelaw23.ParseNumbers': WHATEVER THE INPUT: true; the input reads as it did. -/
def parseNumbersSpec : ChangeSpec := { name := "parseNumbers", fn := fun _ => fun
  | [d1, d2, d3] => { results := [.lit (.bool true)], args := [d1, d2, d3] }
  | _ => none }
def parseNumbersRow : OpenClaim := { program := "ytoofbgoeipijcaagreatdoor", sum := "c21baca88fb67b908ae21afedfdd9e6864f3c9eb88ff9a89dea2edee6f737132", func := "weephole/weepholelaw23.ParseNumbers", spec := "parseNumbers", inPlace := ["internal/bytealg.CountString", "internal/bytealg.IndexByteString", "internal/bytealg.IndexString", "internal/abi.NoEscape", "internal/bytealg.MakeNoZero"], unfollowed := true, recurses := true, named := ["internal/bytealg.MaxLen", "unicode/utf8.first", "unicode/utf8.acceptRanges", "weephole/prog.keywords", "weephole/prog.forms"], apart := false, laid := [("unicode/utf8.acceptRanges", laid_unicode_utf8_acceptRanges), ("weephole/prog.keywords", laid_weephole_prog_keywords), ("weephole/prog.forms", laid_weephole_prog_forms), ("unicode/utf8.first", laid_unicode_utf8_first)] }
def ParseNumbersSaid : Prop := parseNumbersRow.holds Tryz.pinned (OpenSpec.ofChange parseNumbersSpec)

/-- ITS FALSE NEIGHBOUR: 'it returns false'. Refute it at one input. -/
def parseNumbersWrong : ChangeSpec := { name := "parseNumbers", fn := fun _ => fun
  | [d1, d2, d3] => { results := [.lit (.bool false)], args := [d1, d2, d3] }
  | _ => none }
def ParseNumbersWrongFalsely : Prop := parseNumbersRow.holds Tryz.pinned (OpenSpec.ofChange parseNumbersWrong)

/-- 'weepholelaw23.ParseSpread': WHATEVER THE INPUT: true; the input reads as it did. -/
def parseSpreadSpec : ChangeSpec := { name := "parseSpread", fn := fun _ => fun
  | [d1, d2] => { results := [.lit (.bool true)], args := [d1, d2] }
  | _ => none }
def parseSpreadRow : OpenClaim := { program := "ytoofbgoeipijcaagreatdoor", sum := "c21baca88fb67b908ae21afedfdd9e6864f3c9eb88ff9a89dea2edee6f737132", func := "weephole/weepholelaw23.ParseSpread", spec := "parseSpread", inPlace := ["internal/bytealg.IndexByteString", "internal/bytealg.IndexString", "internal/bytealg.CountString", "internal/abi.NoEscape", "internal/bytealg.MakeNoZero"], unfollowed := true, recurses := true, named := ["internal/bytealg.MaxLen", "weephole/prog.keywords", "weephole/prog.forms", "unicode/utf8.first", "unicode/utf8.acceptRanges"], apart := false, laid := [("unicode/utf8.acceptRanges", laid_unicode_utf8_acceptRanges), ("weephole/prog.keywords", laid_weephole_prog_keywords), ("weephole/prog.forms", laid_weephole_prog_forms), ("unicode/utf8.first", laid_unicode_utf8_first)] }
def ParseSpreadSaid : Prop := parseSpreadRow.holds Tryz.pinned (OpenSpec.ofChange parseSpreadSpec)

/-- ITS FALSE NEIGHBOUR: 'it returns false'. Refute it at one input. -/
def parseSpreadWrong : ChangeSpec := { name := "parseSpread", fn := fun _ => fun
  | [d1, d2] => { results := [.lit (.bool false)], args := [d1, d2] }
  | _ => none }
def ParseSpreadWrongFalsely : Prop := parseSpreadRow.holds Tryz.pinned (OpenSpec.ofChange parseSpreadWrong)

/-- 'weepholelaw23.ParseGood': WHATEVER THE INPUT: true; the input reads as it did. -/
def parseGoodSpec : ChangeSpec := { name := "parseGood", fn := fun _ => fun
  | [d] => { results := [.lit (.bool true)], args := [d] }
  | _ => none }
def parseGoodRow : OpenClaim := { program := "ytoofbgoeipijcaagreatdoor", sum := "c21baca88fb67b908ae21afedfdd9e6864f3c9eb88ff9a89dea2edee6f737132", func := "weephole/weepholelaw23.ParseGood", spec := "parseGood", inPlace := ["internal/bytealg.IndexByteString", "internal/bytealg.IndexString", "internal/bytealg.CountString", "internal/abi.NoEscape", "internal/bytealg.MakeNoZero"], unfollowed := true, recurses := true, named := ["internal/bytealg.MaxLen", "weephole/prog.keywords", "weephole/prog.forms", "unicode/utf8.first", "unicode/utf8.acceptRanges"], apart := false, laid := [("unicode/utf8.acceptRanges", laid_unicode_utf8_acceptRanges), ("weephole/prog.keywords", laid_weephole_prog_keywords), ("weephole/prog.forms", laid_weephole_prog_forms), ("unicode/utf8.first", laid_unicode_utf8_first)] }
def ParseGoodSaid : Prop := parseGoodRow.holds Tryz.pinned (OpenSpec.ofChange parseGoodSpec)

/-- ITS FALSE NEIGHBOUR: 'it returns false'. Refute it at one input. -/
def parseGoodWrong : ChangeSpec := { name := "parseGood", fn := fun _ => fun
  | [d] => { results := [.lit (.bool false)], args := [d] }
  | _ => none }
def ParseGoodWrongFalsely : Prop := parseGoodRow.holds Tryz.pinned (OpenSpec.ofChange parseGoodWrong)

/-- 'weepholelaw23.ParsePrefix': WHATEVER THE INPUT: true; the input reads as it did. -/
def parsePrefixSpec : ChangeSpec := { name := "parsePrefix", fn := fun _ => fun
  | [d1, d2] => { results := [.lit (.bool true)], args := [d1, d2] }
  | _ => none }
def parsePrefixRow : OpenClaim := { program := "ytoofbgoeipijcaagreatdoor", sum := "c21baca88fb67b908ae21afedfdd9e6864f3c9eb88ff9a89dea2edee6f737132", func := "weephole/weepholelaw23.ParsePrefix", spec := "parsePrefix", inPlace := ["internal/bytealg.IndexByteString", "internal/bytealg.IndexString", "internal/bytealg.CountString", "internal/abi.NoEscape", "internal/bytealg.MakeNoZero"], unfollowed := true, recurses := true, named := ["internal/bytealg.MaxLen", "weephole/prog.keywords", "weephole/prog.forms", "unicode/utf8.first", "unicode/utf8.acceptRanges"], apart := false, laid := [("unicode/utf8.acceptRanges", laid_unicode_utf8_acceptRanges), ("weephole/prog.keywords", laid_weephole_prog_keywords), ("weephole/prog.forms", laid_weephole_prog_forms), ("unicode/utf8.first", laid_unicode_utf8_first)] }
def ParsePrefixSaid : Prop := parsePrefixRow.holds Tryz.pinned (OpenSpec.ofChange parsePrefixSpec)

/-- ITS FALSE NEIGHBOUR: 'it returns false'. Refute it at one input. -/
def parsePrefixWrong : ChangeSpec := { name := "parsePrefix", fn := fun _ => fun
  | [d1, d2] => { results := [.lit (.bool false)], args := [d1, d2] }
  | _ => none }
def ParsePrefixWrongFalsely : Prop := parsePrefixRow.holds Tryz.pinned (OpenSpec.ofChange parsePrefixWrong)

/-- 'weepholelaw24.PrintBack': WHATEVER THE INPUT: true; the input reads as it did. -/
def printBackSpec : ChangeSpec := { name := "printBack", fn := fun _ => fun
  | [d] => { results := [.lit (.bool true)], args := [d] }
  | _ => none }
def printBackRow : OpenClaim := { program := "ytoofbgoeipijcaagreatdoor", sum := "c21baca88fb67b908ae21afedfdd9e6864f3c9eb88ff9a89dea2edee6f737132", func := "weephole/weepholelaw24.PrintBack", spec := "printBack", inPlace := ["internal/abi.NoEscape", "internal/bytealg.MakeNoZero", "internal/bytealg.IndexByteString", "internal/bytealg.IndexString", "internal/bytealg.CountString"], unfollowed := true, recurses := true, named := ["weephole/prog.keywords", "weephole/prog.forms", "internal/strconv.uint64pow10", "math/bits.deBruijn32tab", "math/bits.deBruijn64tab", "internal/bytealg.MaxLen"], apart := false, laid := [("math/bits.deBruijn32tab", laid_math_bits_deBruijn32tab), ("math/bits.deBruijn64tab", laid_math_bits_deBruijn64tab), ("internal/strconv.uint64pow10", laid_internal_strconv_uint64pow10), ("weephole/prog.keywords", laid_weephole_prog_keywords), ("weephole/prog.forms", laid_weephole_prog_forms)] }
def PrintBackSaid : Prop := printBackRow.holds Tryz.pinned (OpenSpec.ofChange printBackSpec)

/-- ITS FALSE NEIGHBOUR: 'it returns false'. Refute it at one input. -/
def printBackWrong : ChangeSpec := { name := "printBack", fn := fun _ => fun
  | [d] => { results := [.lit (.bool false)], args := [d] }
  | _ => none }
def PrintBackWrongFalsely : Prop := printBackRow.holds Tryz.pinned (OpenSpec.ofChange printBackWrong)

/-- 'weepholelaw24.PrintAgain': WHATEVER THE INPUT: true; the input reads as it did. -/
def printAgainSpec : ChangeSpec := { name := "printAgain", fn := fun _ => fun
  | [d] => { results := [.lit (.bool true)], args := [d] }
  | _ => none }
def printAgainRow : OpenClaim := { program := "ytoofbgoeipijcaagreatdoor", sum := "c21baca88fb67b908ae21afedfdd9e6864f3c9eb88ff9a89dea2edee6f737132", func := "weephole/weepholelaw24.PrintAgain", spec := "printAgain", inPlace := ["internal/bytealg.IndexByteString", "internal/bytealg.IndexString", "internal/bytealg.CountString", "internal/abi.NoEscape", "internal/bytealg.MakeNoZero"], unfollowed := true, recurses := true, named := ["internal/bytealg.MaxLen", "weephole/prog.keywords", "weephole/prog.forms", "internal/strconv.uint64pow10", "math/bits.deBruijn32tab", "math/bits.deBruijn64tab"], apart := false, laid := [("math/bits.deBruijn32tab", laid_math_bits_deBruijn32tab), ("math/bits.deBruijn64tab", laid_math_bits_deBruijn64tab), ("internal/strconv.uint64pow10", laid_internal_strconv_uint64pow10), ("weephole/prog.keywords", laid_weephole_prog_keywords), ("weephole/prog.forms", laid_weephole_prog_forms)] }
def PrintAgainSaid : Prop := printAgainRow.holds Tryz.pinned (OpenSpec.ofChange printAgainSpec)

/-- ITS FALSE NEIGHBOUR: 'it returns false'. Refute it at one input. -/
def printAgainWrong : ChangeSpec := { name := "printAgain", fn := fun _ => fun
  | [d] => { results := [.lit (.bool false)], args := [d] }
  | _ => none }
def PrintAgainWrongFalsely : Prop := printAgainRow.holds Tryz.pinned (OpenSpec.ofChange printAgainWrong)

/- THE SECOND FORM. 'bulk': how many values and letters a reading holds, each counted each time it is reached (what is shared counts as often as it is met; a slice's spare places count too). A statement '..UptoSaid' is the law's where the arguments, and the package variables that the reading takes, are together of bulk at most 1048576: NARROWER than '..Said'. Prove '..Said' where nothing that the law and all that it calls make is longer than what came in: it says more and counts as full. Else prove '..UptoSaid'. A law counts once. -/
mutual
def uptoBulk {H : Type} : DataW H → Nat
  | .lit (.string bytes) => bytes.length + 1
  | .lit _ => 1
  | .nil => 1
  | .ptr d => uptoBulk d + 1
  | .slice elems spare => uptoBulkAll elems + uptoBulkAll spare + 1
  | .agg parts => uptoBulkAll parts + 1
  | .iface _ d => uptoBulk d + 1
  | .map entries => uptoBulkEntries entries + 1
  | .held _ => 1
def uptoBulkAll {H : Type} : List (DataW H) → Nat
  | [] => 0
  | d :: r => uptoBulk d + uptoBulkAll r
def uptoBulkEntries {H : Type} : List (Lit × DataW H) → Nat
  | [] => 0
  | x :: r => uptoBulkEntry x + uptoBulkEntries r
def uptoBulkEntry {H : Type} : Lit × DataW H → Nat
  | (.string bytes, d) => bytes.length + uptoBulk d + 1
  | (_, d) => uptoBulk d + 1
 end
def uptoSmall : (H : Type) → List (DataW H) → Bool := fun _ ds => decide (uptoBulkAll ds ≤ 1048576)
def OpenSpec.upto (s : _root_.Go.ChangeSpec) : _root_.Go.OpenSpec := { _root_.Go.OpenSpec.ofChange s with cond := some uptoSmall }

/-- 'weepholelaw24.PrintTexts', WHERE WHAT IT READS IS OF BULK AT MOST 1048576: true; the input reads as it did. -/
def printTextsUptoRow : OpenClaim := { program := "ytoofbgoeipijcaagreatdoor", sum := "c21baca88fb67b908ae21afedfdd9e6864f3c9eb88ff9a89dea2edee6f737132", func := "weephole/weepholelaw24.PrintTexts", spec := "printTexts", inPlace := ["internal/abi.NoEscape", "internal/bytealg.MakeNoZero"], unfollowed := true, recurses := true, named := ["weephole/prog.keywords", "weephole/prog.forms", "internal/strconv.uint64pow10", "math/bits.deBruijn32tab", "math/bits.deBruijn64tab"], apart := false, laid := [("math/bits.deBruijn32tab", laid_math_bits_deBruijn32tab), ("math/bits.deBruijn64tab", laid_math_bits_deBruijn64tab), ("internal/strconv.uint64pow10", laid_internal_strconv_uint64pow10), ("weephole/prog.keywords", laid_weephole_prog_keywords), ("weephole/prog.forms", laid_weephole_prog_forms)], narrowed := true }
def PrintTextsUptoSaid : Prop := printTextsUptoRow.holds Tryz.pinned (OpenSpec.upto printTextsSpec)

/-- 'weepholelaw24.PrintExamples', WHERE WHAT IT READS IS OF BULK AT MOST 1048576: true; the input reads as it did. -/
def printExamplesUptoRow : OpenClaim := { program := "ytoofbgoeipijcaagreatdoor", sum := "c21baca88fb67b908ae21afedfdd9e6864f3c9eb88ff9a89dea2edee6f737132", func := "weephole/weepholelaw24.PrintExamples", spec := "printExamples", inPlace := ["internal/abi.NoEscape", "internal/bytealg.MakeNoZero"], unfollowed := true, recurses := true, named := ["internal/strconv.uint64pow10", "math/bits.deBruijn32tab", "math/bits.deBruijn64tab", "weephole/prog.keywords", "weephole/prog.forms"], apart := false, laid := [("math/bits.deBruijn32tab", laid_math_bits_deBruijn32tab), ("math/bits.deBruijn64tab", laid_math_bits_deBruijn64tab), ("internal/strconv.uint64pow10", laid_internal_strconv_uint64pow10), ("weephole/prog.keywords", laid_weephole_prog_keywords), ("weephole/prog.forms", laid_weephole_prog_forms)], narrowed := true }
def PrintExamplesUptoSaid : Prop := printExamplesUptoRow.holds Tryz.pinned (OpenSpec.upto printExamplesSpec)

/-- 'weepholelaw23.ParseExamples', WHERE WHAT IT READS IS OF BULK AT MOST 1048576: true; the input reads as it did. -/
def parseExamplesUptoRow : OpenClaim := { program := "ytoofbgoeipijcaagreatdoor", sum := "c21baca88fb67b908ae21afedfdd9e6864f3c9eb88ff9a89dea2edee6f737132", func := "weephole/weepholelaw23.ParseExamples", spec := "parseExamples", inPlace := ["internal/bytealg.IndexByteString", "internal/bytealg.IndexString", "internal/bytealg.CountString", "internal/abi.NoEscape", "internal/bytealg.MakeNoZero"], unfollowed := true, recurses := true, named := ["internal/bytealg.MaxLen", "weephole/prog.keywords", "weephole/prog.forms", "unicode/utf8.first", "unicode/utf8.acceptRanges"], apart := false, laid := [("unicode/utf8.acceptRanges", laid_unicode_utf8_acceptRanges), ("weephole/prog.keywords", laid_weephole_prog_keywords), ("weephole/prog.forms", laid_weephole_prog_forms), ("unicode/utf8.first", laid_unicode_utf8_first)], narrowed := true }
def ParseExamplesUptoSaid : Prop := parseExamplesUptoRow.holds Tryz.pinned (OpenSpec.upto parseExamplesSpec)

/-- 'weepholelaw23.ParseNumbers', WHERE WHAT IT READS IS OF BULK AT MOST 1048576: true; the input reads as it did. -/
def parseNumbersUptoRow : OpenClaim := { program := "ytoofbgoeipijcaagreatdoor", sum := "c21baca88fb67b908ae21afedfdd9e6864f3c9eb88ff9a89dea2edee6f737132", func := "weephole/weepholelaw23.ParseNumbers", spec := "parseNumbers", inPlace := ["internal/bytealg.CountString", "internal/bytealg.IndexByteString", "internal/bytealg.IndexString", "internal/abi.NoEscape", "internal/bytealg.MakeNoZero"], unfollowed := true, recurses := true, named := ["internal/bytealg.MaxLen", "unicode/utf8.first", "unicode/utf8.acceptRanges", "weephole/prog.keywords", "weephole/prog.forms"], apart := false, laid := [("unicode/utf8.acceptRanges", laid_unicode_utf8_acceptRanges), ("weephole/prog.keywords", laid_weephole_prog_keywords), ("weephole/prog.forms", laid_weephole_prog_forms), ("unicode/utf8.first", laid_unicode_utf8_first)], narrowed := true }
def ParseNumbersUptoSaid : Prop := parseNumbersUptoRow.holds Tryz.pinned (OpenSpec.upto parseNumbersSpec)

/-- 'weepholelaw23.ParseSpread', WHERE WHAT IT READS IS OF BULK AT MOST 1048576: true; the input reads as it did. -/
def parseSpreadUptoRow : OpenClaim := { program := "ytoofbgoeipijcaagreatdoor", sum := "c21baca88fb67b908ae21afedfdd9e6864f3c9eb88ff9a89dea2edee6f737132", func := "weephole/weepholelaw23.ParseSpread", spec := "parseSpread", inPlace := ["internal/bytealg.IndexByteString", "internal/bytealg.IndexString", "internal/bytealg.CountString", "internal/abi.NoEscape", "internal/bytealg.MakeNoZero"], unfollowed := true, recurses := true, named := ["internal/bytealg.MaxLen", "weephole/prog.keywords", "weephole/prog.forms", "unicode/utf8.first", "unicode/utf8.acceptRanges"], apart := false, laid := [("unicode/utf8.acceptRanges", laid_unicode_utf8_acceptRanges), ("weephole/prog.keywords", laid_weephole_prog_keywords), ("weephole/prog.forms", laid_weephole_prog_forms), ("unicode/utf8.first", laid_unicode_utf8_first)], narrowed := true }
def ParseSpreadUptoSaid : Prop := parseSpreadUptoRow.holds Tryz.pinned (OpenSpec.upto parseSpreadSpec)

/-- 'weepholelaw23.ParseGood', WHERE WHAT IT READS IS OF BULK AT MOST 1048576: true; the input reads as it did. -/
def parseGoodUptoRow : OpenClaim := { program := "ytoofbgoeipijcaagreatdoor", sum := "c21baca88fb67b908ae21afedfdd9e6864f3c9eb88ff9a89dea2edee6f737132", func := "weephole/weepholelaw23.ParseGood", spec := "parseGood", inPlace := ["internal/bytealg.IndexByteString", "internal/bytealg.IndexString", "internal/bytealg.CountString", "internal/abi.NoEscape", "internal/bytealg.MakeNoZero"], unfollowed := true, recurses := true, named := ["internal/bytealg.MaxLen", "weephole/prog.keywords", "weephole/prog.forms", "unicode/utf8.first", "unicode/utf8.acceptRanges"], apart := false, laid := [("unicode/utf8.acceptRanges", laid_unicode_utf8_acceptRanges), ("weephole/prog.keywords", laid_weephole_prog_keywords), ("weephole/prog.forms", laid_weephole_prog_forms), ("unicode/utf8.first", laid_unicode_utf8_first)], narrowed := true }
def ParseGoodUptoSaid : Prop := parseGoodUptoRow.holds Tryz.pinned (OpenSpec.upto parseGoodSpec)

/-- 'weepholelaw23.ParsePrefix', WHERE WHAT IT READS IS OF BULK AT MOST 1048576: true; the input reads as it did. -/
def parsePrefixUptoRow : OpenClaim := { program := "ytoofbgoeipijcaagreatdoor", sum := "c21baca88fb67b908ae21afedfdd9e6864f3c9eb88ff9a89dea2edee6f737132", func := "weephole/weepholelaw23.ParsePrefix", spec := "parsePrefix", inPlace := ["internal/bytealg.IndexByteString", "internal/bytealg.IndexString", "internal/bytealg.CountString", "internal/abi.NoEscape", "internal/bytealg.MakeNoZero"], unfollowed := true, recurses := true, named := ["internal/bytealg.MaxLen", "weephole/prog.keywords", "weephole/prog.forms", "unicode/utf8.first", "unicode/utf8.acceptRanges"], apart := false, laid := [("unicode/utf8.acceptRanges", laid_unicode_utf8_acceptRanges), ("weephole/prog.keywords", laid_weephole_prog_keywords), ("weephole/prog.forms", laid_weephole_prog_forms), ("unicode/utf8.first", laid_unicode_utf8_first)], narrowed := true }
def ParsePrefixUptoSaid : Prop := parsePrefixUptoRow.holds Tryz.pinned (OpenSpec.upto parsePrefixSpec)

/-- 'weepholelaw24.PrintBack', WHERE WHAT IT READS IS OF BULK AT MOST 1048576: true; the input reads as it did. -/
def printBackUptoRow : OpenClaim := { program := "ytoofbgoeipijcaagreatdoor", sum := "c21baca88fb67b908ae21afedfdd9e6864f3c9eb88ff9a89dea2edee6f737132", func := "weephole/weepholelaw24.PrintBack", spec := "printBack", inPlace := ["internal/abi.NoEscape", "internal/bytealg.MakeNoZero", "internal/bytealg.IndexByteString", "internal/bytealg.IndexString", "internal/bytealg.CountString"], unfollowed := true, recurses := true, named := ["weephole/prog.keywords", "weephole/prog.forms", "internal/strconv.uint64pow10", "math/bits.deBruijn32tab", "math/bits.deBruijn64tab", "internal/bytealg.MaxLen"], apart := false, laid := [("math/bits.deBruijn32tab", laid_math_bits_deBruijn32tab), ("math/bits.deBruijn64tab", laid_math_bits_deBruijn64tab), ("internal/strconv.uint64pow10", laid_internal_strconv_uint64pow10), ("weephole/prog.keywords", laid_weephole_prog_keywords), ("weephole/prog.forms", laid_weephole_prog_forms)], narrowed := true }
def PrintBackUptoSaid : Prop := printBackUptoRow.holds Tryz.pinned (OpenSpec.upto printBackSpec)

/-- 'weepholelaw24.PrintAgain', WHERE WHAT IT READS IS OF BULK AT MOST 1048576: true; the input reads as it did. -/
def printAgainUptoRow : OpenClaim := { program := "ytoofbgoeipijcaagreatdoor", sum := "c21baca88fb67b908ae21afedfdd9e6864f3c9eb88ff9a89dea2edee6f737132", func := "weephole/weepholelaw24.PrintAgain", spec := "printAgain", inPlace := ["internal/bytealg.IndexByteString", "internal/bytealg.IndexString", "internal/bytealg.CountString", "internal/abi.NoEscape", "internal/bytealg.MakeNoZero"], unfollowed := true, recurses := true, named := ["internal/bytealg.MaxLen", "weephole/prog.keywords", "weephole/prog.forms", "internal/strconv.uint64pow10", "math/bits.deBruijn32tab", "math/bits.deBruijn64tab"], apart := false, laid := [("math/bits.deBruijn32tab", laid_math_bits_deBruijn32tab), ("math/bits.deBruijn64tab", laid_math_bits_deBruijn64tab), ("internal/strconv.uint64pow10", laid_internal_strconv_uint64pow10), ("weephole/prog.keywords", laid_weephole_prog_keywords), ("weephole/prog.forms", laid_weephole_prog_forms)], narrowed := true }
def PrintAgainUptoSaid : Prop := printAgainUptoRow.holds Tryz.pinned (OpenSpec.upto printAgainSpec)

end Rows
end Go.Proofs.YtoofbgoeipijcaaGreatDoor
