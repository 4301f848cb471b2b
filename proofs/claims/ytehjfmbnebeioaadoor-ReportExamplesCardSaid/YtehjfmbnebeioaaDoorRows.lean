/-
  NARROWER THAN 'FOR EVERY INPUT', by the rows' own cells (each row's printed sentence says how): ReportWords: laid · ReportExamples: laid · ReportTells: laid · ReportRefuses: laid · ReportTurns: laid · ReportCounts: laid.
  DERIVED. THE GIVEN ROWS OF THIS SEAT. 6 by the template 'for every input the law returns true; each argument reads behind the call as it read before'; 0 by the template 'total and deterministic' (their statements: YtehjfmbnebeioaaDoorTotals.lean).
  GIVEN WITH THE SEED: the statements are not yours to turn. If you find one false, say at which input.
  Laid BY PROGRAM, IN A SANDBOX (cutbox-rows.mjs): the forced cells as the released guide's own fill.sh prints them over the translation 36d7863ebeac7212… (all of the seat's roots in one cut). By AI agents, Wed Nov 11 2026. No macro, syntax, notation, axiom, sorry.
-/
import Derived.Test.YtehjfmbnebeioaaDoorChecked
import GoSem.Claim
import GoSem.ClaimJoined
import GoSem.ClaimMapViews
import Derived.JoinedTies
import Derived.KernelRfl
namespace Go.Proofs.YtehjfmbnebeioaaDoor
/- THE CELL 'sum', in the pinned program and in every row, IS THE sha256 OF THE DUMP (.gsa) THAT YtehjfmbnebeioaaDoorProg.lean LOADS. Nothing in Lean hashes anything: it is a label: what it is worth is what the hold of that sum in a sandbox is worth. -/
noncomputable def Tryd.pinned : Pinned := { name := "ytehjfmbnebeioaadoor", sum := "36d7863ebeac72121724ecd2d8e4d42b291bf02ff15b52a312ac529c93f98bdc", checked := Tryd.checked }
namespace Rows
def none {H : Type} : Left H := { results := [], args := [] }

/- WHAT THE LISTED PACKAGE-LEVEL VARIABLES READ AS WHEN THE CALL BEGINS. Each datum BY PROGRAM (the guide's laid-datum.mjs) off the statement by which the dump's own 'gosem.cut.vars' lays the variable. In a bare row this is a premise. The card (YtehjfmbnebeioaaDoorCards.lean) ties it to the program's text. -/
def laid_math_bits_deBruijn32tab {H : Type} : DataW H := .agg [.lit (.int .u8 0), .lit (.int .u8 1), .lit (.int .u8 28), .lit (.int .u8 2), .lit (.int .u8 29), .lit (.int .u8 14), .lit (.int .u8 24), .lit (.int .u8 3), .lit (.int .u8 30), .lit (.int .u8 22), .lit (.int .u8 20), .lit (.int .u8 15), .lit (.int .u8 25), .lit (.int .u8 17), .lit (.int .u8 4), .lit (.int .u8 8), .lit (.int .u8 31), .lit (.int .u8 27), .lit (.int .u8 13), .lit (.int .u8 23), .lit (.int .u8 21), .lit (.int .u8 19), .lit (.int .u8 16), .lit (.int .u8 7), .lit (.int .u8 26), .lit (.int .u8 12), .lit (.int .u8 18), .lit (.int .u8 6), .lit (.int .u8 11), .lit (.int .u8 5), .lit (.int .u8 10), .lit (.int .u8 9)]
def laid_math_bits_deBruijn64tab {H : Type} : DataW H := .agg [.lit (.int .u8 0), .lit (.int .u8 1), .lit (.int .u8 56), .lit (.int .u8 2), .lit (.int .u8 57), .lit (.int .u8 49), .lit (.int .u8 28), .lit (.int .u8 3), .lit (.int .u8 61), .lit (.int .u8 58), .lit (.int .u8 42), .lit (.int .u8 50), .lit (.int .u8 38), .lit (.int .u8 29), .lit (.int .u8 17), .lit (.int .u8 4), .lit (.int .u8 62), .lit (.int .u8 47), .lit (.int .u8 59), .lit (.int .u8 36), .lit (.int .u8 45), .lit (.int .u8 43), .lit (.int .u8 51), .lit (.int .u8 22), .lit (.int .u8 53), .lit (.int .u8 39), .lit (.int .u8 33), .lit (.int .u8 30), .lit (.int .u8 24), .lit (.int .u8 18), .lit (.int .u8 12), .lit (.int .u8 5), .lit (.int .u8 63), .lit (.int .u8 55), .lit (.int .u8 48), .lit (.int .u8 27), .lit (.int .u8 60), .lit (.int .u8 41), .lit (.int .u8 37), .lit (.int .u8 16), .lit (.int .u8 46), .lit (.int .u8 35), .lit (.int .u8 44), .lit (.int .u8 21), .lit (.int .u8 52), .lit (.int .u8 32), .lit (.int .u8 23), .lit (.int .u8 11), .lit (.int .u8 54), .lit (.int .u8 26), .lit (.int .u8 40), .lit (.int .u8 15), .lit (.int .u8 34), .lit (.int .u8 20), .lit (.int .u8 31), .lit (.int .u8 10), .lit (.int .u8 25), .lit (.int .u8 14), .lit (.int .u8 19), .lit (.int .u8 9), .lit (.int .u8 13), .lit (.int .u8 8), .lit (.int .u8 7), .lit (.int .u8 6)]
def laid_internal_strconv_uint64pow10 {H : Type} : DataW H := .agg [.lit (.int .u64 1), .lit (.int .u64 10), .lit (.int .u64 100), .lit (.int .u64 1000), .lit (.int .u64 10000), .lit (.int .u64 100000), .lit (.int .u64 1000000), .lit (.int .u64 10000000), .lit (.int .u64 100000000), .lit (.int .u64 1000000000), .lit (.int .u64 10000000000), .lit (.int .u64 100000000000), .lit (.int .u64 1000000000000), .lit (.int .u64 10000000000000), .lit (.int .u64 100000000000000), .lit (.int .u64 1000000000000000), .lit (.int .u64 10000000000000000), .lit (.int .u64 100000000000000000), .lit (.int .u64 1000000000000000000), .lit (.int .u64 10000000000000000000)]
def laid_weephole_report_reasons {H : Type} : DataW H := .agg [.lit (.string []), .lit (.string [112, 97, 116, 104, 115]), .lit (.string [110, 111, 100, 101, 115]), .lit (.string [99, 111, 110, 102, 108, 105, 99, 116, 115]), .lit (.string [102, 117, 101, 108])]
def laid_weephole_report_errors {H : Type} : DataW H := .agg [.lit (.string []), .lit (.string [110, 105, 108]), .lit (.string [97, 114, 103]), .lit (.string [114, 97, 110, 103, 101]), .lit (.string [102, 111, 114, 109]), .lit (.string [108, 111, 110, 103]), .lit (.string [110, 111, 110, 101]), .lit (.string [115, 116, 97, 116, 101]), .lit (.string [116, 119, 105, 99, 101]), .lit (.string [108, 111, 111, 112]), .lit (.string [98, 117, 100, 103, 101, 116])]

/-- 'weepholelaw39.ReportWords': WHATEVER THE INPUT: true; the input reads as it did. -/
def reportWordsSpec : ChangeSpec := { name := "reportWords", fn := fun _ => fun
  | [d1, d2] => { results := [.lit (.bool true)], args := [d1, d2] }
  | _ => none }
def reportWordsRow : OpenClaim := { program := "ytehjfmbnebeioaadoor", sum := "36d7863ebeac72121724ecd2d8e4d42b291bf02ff15b52a312ac529c93f98bdc", func := "weephole/weepholelaw39.ReportWords", spec := "reportWords", unfollowed := true, recurses := true, named := ["weephole/report.reasons", "internal/strconv.uint64pow10", "math/bits.deBruijn32tab", "math/bits.deBruijn64tab", "weephole/report.errors"], apart := false, laid := [("math/bits.deBruijn32tab", laid_math_bits_deBruijn32tab), ("math/bits.deBruijn64tab", laid_math_bits_deBruijn64tab), ("internal/strconv.uint64pow10", laid_internal_strconv_uint64pow10), ("weephole/report.reasons", laid_weephole_report_reasons), ("weephole/report.errors", laid_weephole_report_errors)] }
def ReportWordsSaid : Prop := reportWordsRow.holds Tryd.pinned (OpenSpec.ofChange reportWordsSpec)

/-- ITS FALSE NEIGHBOUR: 'it returns false'. Refute it at one input. -/
def reportWordsWrong : ChangeSpec := { name := "reportWords", fn := fun _ => fun
  | [d1, d2] => { results := [.lit (.bool false)], args := [d1, d2] }
  | _ => none }
def ReportWordsWrongFalsely : Prop := reportWordsRow.holds Tryd.pinned (OpenSpec.ofChange reportWordsWrong)

/-- 'weepholelaw39.ReportExamples': WHATEVER THE INPUT: true; the input reads as it did. -/
def reportExamplesSpec : ChangeSpec := { name := "reportExamples", fn := fun _ => fun
  | [] => { results := [.lit (.bool true)], args := [] }
  | _ => none }
def reportExamplesRow : OpenClaim := { program := "ytehjfmbnebeioaadoor", sum := "36d7863ebeac72121724ecd2d8e4d42b291bf02ff15b52a312ac529c93f98bdc", func := "weephole/weepholelaw39.ReportExamples", spec := "reportExamples", unfollowed := true, recurses := true, named := ["weephole/report.reasons", "internal/strconv.uint64pow10", "math/bits.deBruijn32tab", "math/bits.deBruijn64tab", "weephole/report.errors"], apart := false, laid := [("math/bits.deBruijn32tab", laid_math_bits_deBruijn32tab), ("math/bits.deBruijn64tab", laid_math_bits_deBruijn64tab), ("internal/strconv.uint64pow10", laid_internal_strconv_uint64pow10), ("weephole/report.reasons", laid_weephole_report_reasons), ("weephole/report.errors", laid_weephole_report_errors)] }
def ReportExamplesSaid : Prop := reportExamplesRow.holds Tryd.pinned (OpenSpec.ofChange reportExamplesSpec)

/-- ITS FALSE NEIGHBOUR: 'it returns false'. Refute it at one input. -/
def reportExamplesWrong : ChangeSpec := { name := "reportExamples", fn := fun _ => fun
  | [] => { results := [.lit (.bool false)], args := [] }
  | _ => none }
def ReportExamplesWrongFalsely : Prop := reportExamplesRow.holds Tryd.pinned (OpenSpec.ofChange reportExamplesWrong)

/-- 'weepholelaw39.ReportTells': WHATEVER THE INPUT: true; the input reads as it did. -/
def reportTellsSpec : ChangeSpec := { name := "reportTells", fn := fun _ => fun
  | [d1, d2, d3, d4] => { results := [.lit (.bool true)], args := [d1, d2, d3, d4] }
  | _ => none }
def reportTellsRow : OpenClaim := { program := "ytehjfmbnebeioaadoor", sum := "36d7863ebeac72121724ecd2d8e4d42b291bf02ff15b52a312ac529c93f98bdc", func := "weephole/weepholelaw39.ReportTells", spec := "reportTells", unfollowed := true, recurses := true, named := ["weephole/report.reasons", "internal/strconv.uint64pow10", "math/bits.deBruijn32tab", "math/bits.deBruijn64tab", "weephole/report.errors"], apart := false, laid := [("math/bits.deBruijn32tab", laid_math_bits_deBruijn32tab), ("math/bits.deBruijn64tab", laid_math_bits_deBruijn64tab), ("internal/strconv.uint64pow10", laid_internal_strconv_uint64pow10), ("weephole/report.reasons", laid_weephole_report_reasons), ("weephole/report.errors", laid_weephole_report_errors)] }
def ReportTellsSaid : Prop := reportTellsRow.holds Tryd.pinned (OpenSpec.ofChange reportTellsSpec)

/-- ITS FALSE NEIGHBOUR: 'it returns false'. Refute it at one input. -/
def reportTellsWrong : ChangeSpec := { name := "reportTells", fn := fun _ => fun
  | [d1, d2, d3, d4] => { results := [.lit (.bool false)], args := [d1, d2, d3, d4] }
  | _ => none }
def ReportTellsWrongFalsely : Prop := reportTellsRow.holds Tryd.pinned (OpenSpec.ofChange reportTellsWrong)

/-- 'weepholelaw39.ReportRefuses': WHATEVER THE INPUT: true; the input reads as it did. -/
def reportRefusesSpec : ChangeSpec := { name := "reportRefuses", fn := fun _ => fun
  | [d1, d2] => { results := [.lit (.bool true)], args := [d1, d2] }
  | _ => none }
def reportRefusesRow : OpenClaim := { program := "ytehjfmbnebeioaadoor", sum := "36d7863ebeac72121724ecd2d8e4d42b291bf02ff15b52a312ac529c93f98bdc", func := "weephole/weepholelaw39.ReportRefuses", spec := "reportRefuses", unfollowed := true, recurses := true, named := ["weephole/report.reasons", "internal/strconv.uint64pow10", "math/bits.deBruijn32tab", "math/bits.deBruijn64tab", "weephole/report.errors"], apart := false, laid := [("math/bits.deBruijn32tab", laid_math_bits_deBruijn32tab), ("math/bits.deBruijn64tab", laid_math_bits_deBruijn64tab), ("internal/strconv.uint64pow10", laid_internal_strconv_uint64pow10), ("weephole/report.reasons", laid_weephole_report_reasons), ("weephole/report.errors", laid_weephole_report_errors)] }
def ReportRefusesSaid : Prop := reportRefusesRow.holds Tryd.pinned (OpenSpec.ofChange reportRefusesSpec)

/-- ITS FALSE NEIGHBOUR: 'it returns false'. Refute it at one input. -/
def reportRefusesWrong : ChangeSpec := { name := "reportRefuses", fn := fun _ => fun
  | [d1, d2] => { results := [.lit (.bool false)], args := [d1, d2] }
  | _ => none }
def ReportRefusesWrongFalsely : Prop := reportRefusesRow.holds Tryd.pinned (OpenSpec.ofChange reportRefusesWrong)

/-- 'weepholelaw39.ReportTurns': WHATEVER THE INPUT: true; the input reads as it did. -/
def reportTurnsSpec : ChangeSpec := { name := "reportTurns", fn := fun _ => fun
  | [d1, d2, d3] => { results := [.lit (.bool true)], args := [d1, d2, d3] }
  | _ => none }
def reportTurnsRow : OpenClaim := { program := "ytehjfmbnebeioaadoor", sum := "36d7863ebeac72121724ecd2d8e4d42b291bf02ff15b52a312ac529c93f98bdc", func := "weephole/weepholelaw39.ReportTurns", spec := "reportTurns", unfollowed := true, recurses := true, named := ["weephole/report.reasons", "internal/strconv.uint64pow10", "math/bits.deBruijn32tab", "math/bits.deBruijn64tab", "weephole/report.errors"], apart := false, laid := [("math/bits.deBruijn32tab", laid_math_bits_deBruijn32tab), ("math/bits.deBruijn64tab", laid_math_bits_deBruijn64tab), ("internal/strconv.uint64pow10", laid_internal_strconv_uint64pow10), ("weephole/report.reasons", laid_weephole_report_reasons), ("weephole/report.errors", laid_weephole_report_errors)] }
def ReportTurnsSaid : Prop := reportTurnsRow.holds Tryd.pinned (OpenSpec.ofChange reportTurnsSpec)

/-- ITS FALSE NEIGHBOUR: 'it returns false'. Refute it at one input. -/
def reportTurnsWrong : ChangeSpec := { name := "reportTurns", fn := fun _ => fun
  | [d1, d2, d3] => { results := [.lit (.bool false)], args := [d1, d2, d3] }
  | _ => none }
def ReportTurnsWrongFalsely : Prop := reportTurnsRow.holds Tryd.pinned (OpenSpec.ofChange reportTurnsWrong)

/-- 'weepholelaw39.ReportCounts': WHATEVER THE INPUT: true; the input reads as it did. -/
def reportCountsSpec : ChangeSpec := { name := "reportCounts", fn := fun _ => fun
  | [d1, d2, d3] => { results := [.lit (.bool true)], args := [d1, d2, d3] }
  | _ => none }
def reportCountsRow : OpenClaim := { program := "ytehjfmbnebeioaadoor", sum := "36d7863ebeac72121724ecd2d8e4d42b291bf02ff15b52a312ac529c93f98bdc", func := "weephole/weepholelaw39.ReportCounts", spec := "reportCounts", inPlace := ["internal/bytealg.IndexByteString", "internal/bytealg.IndexString"], unfollowed := true, recurses := true, named := ["weephole/report.reasons", "internal/strconv.uint64pow10", "math/bits.deBruijn32tab", "math/bits.deBruijn64tab", "weephole/report.errors", "internal/bytealg.MaxLen"], apart := false, laid := [("math/bits.deBruijn32tab", laid_math_bits_deBruijn32tab), ("math/bits.deBruijn64tab", laid_math_bits_deBruijn64tab), ("internal/strconv.uint64pow10", laid_internal_strconv_uint64pow10), ("weephole/report.reasons", laid_weephole_report_reasons), ("weephole/report.errors", laid_weephole_report_errors)] }
def ReportCountsSaid : Prop := reportCountsRow.holds Tryd.pinned (OpenSpec.ofChange reportCountsSpec)

/-- ITS FALSE NEIGHBOUR: 'it returns false'. Refute it at one input. -/
def reportCountsWrong : ChangeSpec := { name := "reportCounts", fn := fun _ => fun
  | [d1, d2, d3] => { results := [.lit (.bool false)], args := [d1, d2, d3] }
  | _ => none }
def ReportCountsWrongFalsely : Prop := reportCountsRow.holds Tryd.pinned (OpenSpec.ofChange reportCountsWrong)

/- THE SECOND FORM. 'bulk': how many values and letters a reading holds, each counted each time it is reached (what is shared counts as often as it is met; a slice's spare places count too). A statement '..UptoSaid' is the law's where the arguments, and the package variables that the reading takes, are together of bulk at most 1048576: NARROWER than '..Said'. Prove '..Said' where nothing that the law and all that it calls make is longer than what came in: it says more and counts as full. Else prove '..UptoSaid'. A law counts once. -/
mutual
def uptoBulk {H : Type} : DataW H → Nat
  | .lit (.string bytes) => bytes.length + 1
  | .lit _ => 1
  | .nil => 1
  | .ptr d => uptoBulk d + 1
  | .slice elems spare => uptoBulkAll elems + uptoBulkAll spare + 1
  | .agg parts => uptoBulkAll parts + 1
  | .iface _ d => uptoBulk d + 1
  | .map entries => uptoBulkEntries entries + 1
  | .held _ => 1
def uptoBulkAll {H : Type} : List (DataW H) → Nat
  | [] => 0
  | d :: r => uptoBulk d + uptoBulkAll r
def uptoBulkEntries {H : Type} : List (Lit × DataW H) → Nat
  | [] => 0
  | x :: r => uptoBulkEntry x + uptoBulkEntries r
def uptoBulkEntry {H : Type} : Lit × DataW H → Nat
  | (.string bytes, d) => bytes.length + uptoBulk d + 1
  | (_, d) => uptoBulk d + 1
 end
def uptoSmall : (H : Type) → List (DataW H) → Bool := fun _ ds => decide (uptoBulkAll ds ≤ 1048576)
def OpenSpec.upto (s : _root_.Go.ChangeSpec) : _root_.Go.OpenSpec := { _root_.Go.OpenSpec.ofChange s with cond := some uptoSmall }

/-- 'weepholelaw39.ReportWords', WHERE WHAT IT READS IS OF BULK AT MOST 1048576: true; the input reads as it did. -/
def reportWordsUptoRow : OpenClaim := { program := "ytehjfmbnebeioaadoor", sum := "36d7863ebeac72121724ecd2d8e4d42b291bf02ff15b52a312ac529c93f98bdc", func := "weephole/weepholelaw39.ReportWords", spec := "reportWords", unfollowed := true, recurses := true, named := ["weephole/report.reasons", "internal/strconv.uint64pow10", "math/bits.deBruijn32tab", "math/bits.deBruijn64tab", "weephole/report.errors"], apart := false, laid := [("math/bits.deBruijn32tab", laid_math_bits_deBruijn32tab), ("math/bits.deBruijn64tab", laid_math_bits_deBruijn64tab), ("internal/strconv.uint64pow10", laid_internal_strconv_uint64pow10), ("weephole/report.reasons", laid_weephole_report_reasons), ("weephole/report.errors", laid_weephole_report_errors)], narrowed := true }
def ReportWordsUptoSaid : Prop := reportWordsUptoRow.holds Tryd.pinned (OpenSpec.upto reportWordsSpec)

/-- 'weepholelaw39.ReportExamples', WHERE WHAT IT READS IS OF BULK AT MOST 1048576: true; the input reads as it did. -/
def reportExamplesUptoRow : OpenClaim := { program := "ytehjfmbnebeioaadoor", sum := "36d7863ebeac72121724ecd2d8e4d42b291bf02ff15b52a312ac529c93f98bdc", func := "weephole/weepholelaw39.ReportExamples", spec := "reportExamples", unfollowed := true, recurses := true, named := ["weephole/report.reasons", "internal/strconv.uint64pow10", "math/bits.deBruijn32tab", "math/bits.deBruijn64tab", "weephole/report.errors"], apart := false, laid := [("math/bits.deBruijn32tab", laid_math_bits_deBruijn32tab), ("math/bits.deBruijn64tab", laid_math_bits_deBruijn64tab), ("internal/strconv.uint64pow10", laid_internal_strconv_uint64pow10), ("weephole/report.reasons", laid_weephole_report_reasons), ("weephole/report.errors", laid_weephole_report_errors)], narrowed := true }
def ReportExamplesUptoSaid : Prop := reportExamplesUptoRow.holds Tryd.pinned (OpenSpec.upto reportExamplesSpec)

/-- 'weepholelaw39.ReportTells', WHERE WHAT IT READS IS OF BULK AT MOST 1048576: true; the input reads as it did. -/
def reportTellsUptoRow : OpenClaim := { program := "ytehjfmbnebeioaadoor", sum := "36d7863ebeac72121724ecd2d8e4d42b291bf02ff15b52a312ac529c93f98bdc", func := "weephole/weepholelaw39.ReportTells", spec := "reportTells", unfollowed := true, recurses := true, named := ["weephole/report.reasons", "internal/strconv.uint64pow10", "math/bits.deBruijn32tab", "math/bits.deBruijn64tab", "weephole/report.errors"], apart := false, laid := [("math/bits.deBruijn32tab", laid_math_bits_deBruijn32tab), ("math/bits.deBruijn64tab", laid_math_bits_deBruijn64tab), ("internal/strconv.uint64pow10", laid_internal_strconv_uint64pow10), ("weephole/report.reasons", laid_weephole_report_reasons), ("weephole/report.errors", laid_weephole_report_errors)], narrowed := true }
def ReportTellsUptoSaid : Prop := reportTellsUptoRow.holds Tryd.pinned (OpenSpec.upto reportTellsSpec)

/-- 'weepholelaw39.ReportRefuses', WHERE WHAT IT READS IS OF BULK AT MOST 1048576: true; the input reads as it did. -/
def reportRefusesUptoRow : OpenClaim := { program := "ytehjfmbnebeioaadoor", sum := "36d7863ebeac72121724ecd2d8e4d42b291bf02ff15b52a312ac529c93f98bdc", func := "weephole/weepholelaw39.ReportRefuses", spec := "reportRefuses", unfollowed := true, recurses := true, named := ["weephole/report.reasons", "internal/strconv.uint64pow10", "math/bits.deBruijn32tab", "math/bits.deBruijn64tab", "weephole/report.errors"], apart := false, laid := [("math/bits.deBruijn32tab", laid_math_bits_deBruijn32tab), ("math/bits.deBruijn64tab", laid_math_bits_deBruijn64tab), ("internal/strconv.uint64pow10", laid_internal_strconv_uint64pow10), ("weephole/report.reasons", laid_weephole_report_reasons), ("weephole/report.errors", laid_weephole_report_errors)], narrowed := true }
def ReportRefusesUptoSaid : Prop := reportRefusesUptoRow.holds Tryd.pinned (OpenSpec.upto reportRefusesSpec)

/-- 'weepholelaw39.ReportTurns', WHERE WHAT IT READS IS OF BULK AT MOST 1048576: true; the input reads as it did. -/
def reportTurnsUptoRow : OpenClaim := { program := "ytehjfmbnebeioaadoor", sum := "36d7863ebeac72121724ecd2d8e4d42b291bf02ff15b52a312ac529c93f98bdc", func := "weephole/weepholelaw39.ReportTurns", spec := "reportTurns", unfollowed := true, recurses := true, named := ["weephole/report.reasons", "internal/strconv.uint64pow10", "math/bits.deBruijn32tab", "math/bits.deBruijn64tab", "weephole/report.errors"], apart := false, laid := [("math/bits.deBruijn32tab", laid_math_bits_deBruijn32tab), ("math/bits.deBruijn64tab", laid_math_bits_deBruijn64tab), ("internal/strconv.uint64pow10", laid_internal_strconv_uint64pow10), ("weephole/report.reasons", laid_weephole_report_reasons), ("weephole/report.errors", laid_weephole_report_errors)], narrowed := true }
def ReportTurnsUptoSaid : Prop := reportTurnsUptoRow.holds Tryd.pinned (OpenSpec.upto reportTurnsSpec)

/-- 'weepholelaw39.ReportCounts', WHERE WHAT IT READS IS OF BULK AT MOST 1048576: true; the input reads as it did. -/
def reportCountsUptoRow : OpenClaim := { program := "ytehjfmbnebeioaadoor", sum := "36d7863ebeac72121724ecd2d8e4d42b291bf02ff15b52a312ac529c93f98bdc", func := "weephole/weepholelaw39.ReportCounts", spec := "reportCounts", inPlace := ["internal/bytealg.IndexByteString", "internal/bytealg.IndexString"], unfollowed := true, recurses := true, named := ["weephole/report.reasons", "internal/strconv.uint64pow10", "math/bits.deBruijn32tab", "math/bits.deBruijn64tab", "weephole/report.errors", "internal/bytealg.MaxLen"], apart := false, laid := [("math/bits.deBruijn32tab", laid_math_bits_deBruijn32tab), ("math/bits.deBruijn64tab", laid_math_bits_deBruijn64tab), ("internal/strconv.uint64pow10", laid_internal_strconv_uint64pow10), ("weephole/report.reasons", laid_weephole_report_reasons), ("weephole/report.errors", laid_weephole_report_errors)], narrowed := true }
def ReportCountsUptoSaid : Prop := reportCountsUptoRow.holds Tryd.pinned (OpenSpec.upto reportCountsSpec)

end Rows
end Go.Proofs.YtehjfmbnebeioaaDoor
