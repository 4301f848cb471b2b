/-
  NARROWER THAN 'FOR EVERY INPUT', by the rows' own cells (each row's printed sentence says how): ShiftMatches: laid · ShiftWords: laid · ShiftEdges: laid · ShiftTwice: laid · ShiftSigned: laid · ShiftFew: laid · ShiftNames: laid.
  DERIVED. THE GIVEN ROWS OF THIS SEAT. 7 by the template 'for every input the law returns true; each argument reads behind the call as it read before'; 0 by the template 'total and deterministic' (their statements: YtjcnhnifageikaaDoorTotals.lean).
  GIVEN WITH THE SEED: the statements are not yours to turn. If you find one false, say at which input.
  Laid BY PROGRAM, IN A SANDBOX (cutbox-rows.mjs): the forced cells as the released guide's own fill.sh prints them over the translation 79f577c6bc1857c2… (all of the seat's roots in one cut). By AI agents, Wed Nov 11 2026. No macro, syntax, notation, axiom, sorry.
-/
import Derived.Test.YtjcnhnifageikaaDoorChecked
import GoSem.Claim
import GoSem.ClaimJoined
import GoSem.ClaimMapViews
import Derived.JoinedTies
import Derived.KernelRfl
namespace Go.Proofs.YtjcnhnifageikaaDoor
/- THE CELL 'sum', in the pinned program and in every row, IS THE sha256 OF THE DUMP (.gsa) THAT YtjcnhnifageikaaDoorProg.lean LOADS. Nothing in Lean hashes anything: it is a label: what it is worth is what the hold of that sum in a sandbox is worth. -/
noncomputable def Tryd.pinned : Pinned := { name := "ytjcnhnifageikaadoor", sum := "79f577c6bc1857c23cc073656a0a03383c6f1ec519c89ae344f95b60b08fbf86", checked := Tryd.checked }
namespace Rows
def none {H : Type} : Left H := { results := [], args := [] }

/- WHAT THE LISTED PACKAGE-LEVEL VARIABLES READ AS WHEN THE CALL BEGINS. Each datum BY PROGRAM (the guide's laid-datum.mjs) off the statement by which the dump's own 'gosem.cut.vars' lays the variable. In a bare row this is a premise. The card (YtjcnhnifageikaaDoorCards.lean) ties it to the program's text. -/
def laid_weephole_weepholelaw18_ops {H : Type} : DataW H := .agg [.lit (.int .u8 12), .lit (.int .u8 13), .lit (.int .u8 14)]

/-- 'weepholelaw18.ShiftMatches': WHATEVER THE INPUT: true; the input reads as it did. -/
def shiftMatchesSpec : ChangeSpec := { name := "shiftMatches", fn := fun _ => fun
  | [d] => { results := [.lit (.bool true)], args := [d] }
  | _ => none }
def shiftMatchesRow : OpenClaim := { program := "ytjcnhnifageikaadoor", sum := "79f577c6bc1857c23cc073656a0a03383c6f1ec519c89ae344f95b60b08fbf86", func := "weephole/weepholelaw18.ShiftMatches", spec := "shiftMatches", unfollowed := true, recurses := true, named := ["weephole/weepholelaw18.ops"], apart := false, laid := [("weephole/weepholelaw18.ops", laid_weephole_weepholelaw18_ops)] }
def ShiftMatchesSaid : Prop := shiftMatchesRow.holds Tryd.pinned (OpenSpec.ofChange shiftMatchesSpec)

/-- ITS FALSE NEIGHBOUR: 'it returns false'. Refute it at one input. -/
def shiftMatchesWrong : ChangeSpec := { name := "shiftMatches", fn := fun _ => fun
  | [d] => { results := [.lit (.bool false)], args := [d] }
  | _ => none }
def ShiftMatchesWrongFalsely : Prop := shiftMatchesRow.holds Tryd.pinned (OpenSpec.ofChange shiftMatchesWrong)

/-- 'weepholelaw18.ShiftWords': WHATEVER THE INPUT: true; the input reads as it did. -/
def shiftWordsSpec : ChangeSpec := { name := "shiftWords", fn := fun _ => fun
  | [d] => { results := [.lit (.bool true)], args := [d] }
  | _ => none }
def shiftWordsRow : OpenClaim := { program := "ytjcnhnifageikaadoor", sum := "79f577c6bc1857c23cc073656a0a03383c6f1ec519c89ae344f95b60b08fbf86", func := "weephole/weepholelaw18.ShiftWords", spec := "shiftWords", unfollowed := true, recurses := true, named := ["weephole/weepholelaw18.ops"], apart := false, laid := [("weephole/weepholelaw18.ops", laid_weephole_weepholelaw18_ops)] }
def ShiftWordsSaid : Prop := shiftWordsRow.holds Tryd.pinned (OpenSpec.ofChange shiftWordsSpec)

/-- ITS FALSE NEIGHBOUR: 'it returns false'. Refute it at one input. -/
def shiftWordsWrong : ChangeSpec := { name := "shiftWords", fn := fun _ => fun
  | [d] => { results := [.lit (.bool false)], args := [d] }
  | _ => none }
def ShiftWordsWrongFalsely : Prop := shiftWordsRow.holds Tryd.pinned (OpenSpec.ofChange shiftWordsWrong)

/-- 'weepholelaw18.ShiftEdges': WHATEVER THE INPUT: true; the input reads as it did. -/
def shiftEdgesSpec : ChangeSpec := { name := "shiftEdges", fn := fun _ => fun
  | [d] => { results := [.lit (.bool true)], args := [d] }
  | _ => none }
def shiftEdgesRow : OpenClaim := { program := "ytjcnhnifageikaadoor", sum := "79f577c6bc1857c23cc073656a0a03383c6f1ec519c89ae344f95b60b08fbf86", func := "weephole/weepholelaw18.ShiftEdges", spec := "shiftEdges", unfollowed := true, recurses := true, named := ["weephole/weepholelaw18.ops"], apart := false, laid := [("weephole/weepholelaw18.ops", laid_weephole_weepholelaw18_ops)] }
def ShiftEdgesSaid : Prop := shiftEdgesRow.holds Tryd.pinned (OpenSpec.ofChange shiftEdgesSpec)

/-- ITS FALSE NEIGHBOUR: 'it returns false'. Refute it at one input. -/
def shiftEdgesWrong : ChangeSpec := { name := "shiftEdges", fn := fun _ => fun
  | [d] => { results := [.lit (.bool false)], args := [d] }
  | _ => none }
def ShiftEdgesWrongFalsely : Prop := shiftEdgesRow.holds Tryd.pinned (OpenSpec.ofChange shiftEdgesWrong)

/-- 'weepholelaw18.ShiftTwice': WHATEVER THE INPUT: true; the input reads as it did. -/
def shiftTwiceSpec : ChangeSpec := { name := "shiftTwice", fn := fun _ => fun
  | [d1, d2, d3] => { results := [.lit (.bool true)], args := [d1, d2, d3] }
  | _ => none }
def shiftTwiceRow : OpenClaim := { program := "ytjcnhnifageikaadoor", sum := "79f577c6bc1857c23cc073656a0a03383c6f1ec519c89ae344f95b60b08fbf86", func := "weephole/weepholelaw18.ShiftTwice", spec := "shiftTwice", unfollowed := true, recurses := true, named := ["weephole/weepholelaw18.ops"], apart := false, laid := [("weephole/weepholelaw18.ops", laid_weephole_weepholelaw18_ops)] }
def ShiftTwiceSaid : Prop := shiftTwiceRow.holds Tryd.pinned (OpenSpec.ofChange shiftTwiceSpec)

/-- ITS FALSE NEIGHBOUR: 'it returns false'. Refute it at one input. -/
def shiftTwiceWrong : ChangeSpec := { name := "shiftTwice", fn := fun _ => fun
  | [d1, d2, d3] => { results := [.lit (.bool false)], args := [d1, d2, d3] }
  | _ => none }
def ShiftTwiceWrongFalsely : Prop := shiftTwiceRow.holds Tryd.pinned (OpenSpec.ofChange shiftTwiceWrong)

/-- 'weepholelaw18.ShiftSigned': WHATEVER THE INPUT: true; the input reads as it did. -/
def shiftSignedSpec : ChangeSpec := { name := "shiftSigned", fn := fun _ => fun
  | [d] => { results := [.lit (.bool true)], args := [d] }
  | _ => none }
def shiftSignedRow : OpenClaim := { program := "ytjcnhnifageikaadoor", sum := "79f577c6bc1857c23cc073656a0a03383c6f1ec519c89ae344f95b60b08fbf86", func := "weephole/weepholelaw18.ShiftSigned", spec := "shiftSigned", unfollowed := true, recurses := true, named := ["weephole/weepholelaw18.ops"], apart := false, laid := [("weephole/weepholelaw18.ops", laid_weephole_weepholelaw18_ops)] }
def ShiftSignedSaid : Prop := shiftSignedRow.holds Tryd.pinned (OpenSpec.ofChange shiftSignedSpec)

/-- ITS FALSE NEIGHBOUR: 'it returns false'. Refute it at one input. -/
def shiftSignedWrong : ChangeSpec := { name := "shiftSigned", fn := fun _ => fun
  | [d] => { results := [.lit (.bool false)], args := [d] }
  | _ => none }
def ShiftSignedWrongFalsely : Prop := shiftSignedRow.holds Tryd.pinned (OpenSpec.ofChange shiftSignedWrong)

/-- 'weepholelaw18.ShiftFew': WHATEVER THE INPUT: true; the input reads as it did. -/
def shiftFewSpec : ChangeSpec := { name := "shiftFew", fn := fun _ => fun
  | [d] => { results := [.lit (.bool true)], args := [d] }
  | _ => none }
def shiftFewRow : OpenClaim := { program := "ytjcnhnifageikaadoor", sum := "79f577c6bc1857c23cc073656a0a03383c6f1ec519c89ae344f95b60b08fbf86", func := "weephole/weepholelaw18.ShiftFew", spec := "shiftFew", unfollowed := true, recurses := true, named := ["weephole/weepholelaw18.ops"], apart := false, laid := [("weephole/weepholelaw18.ops", laid_weephole_weepholelaw18_ops)] }
def ShiftFewSaid : Prop := shiftFewRow.holds Tryd.pinned (OpenSpec.ofChange shiftFewSpec)

/-- ITS FALSE NEIGHBOUR: 'it returns false'. Refute it at one input. -/
def shiftFewWrong : ChangeSpec := { name := "shiftFew", fn := fun _ => fun
  | [d] => { results := [.lit (.bool false)], args := [d] }
  | _ => none }
def ShiftFewWrongFalsely : Prop := shiftFewRow.holds Tryd.pinned (OpenSpec.ofChange shiftFewWrong)

/-- 'weepholelaw18.ShiftNames': WHATEVER THE INPUT: true; the input reads as it did. -/
def shiftNamesSpec : ChangeSpec := { name := "shiftNames", fn := fun _ => fun
  | [] => { results := [.lit (.bool true)], args := [] }
  | _ => none }
def shiftNamesRow : OpenClaim := { program := "ytjcnhnifageikaadoor", sum := "79f577c6bc1857c23cc073656a0a03383c6f1ec519c89ae344f95b60b08fbf86", func := "weephole/weepholelaw18.ShiftNames", spec := "shiftNames", unfollowed := true, recurses := true, named := ["weephole/weepholelaw18.ops"], apart := false, laid := [("weephole/weepholelaw18.ops", laid_weephole_weepholelaw18_ops)] }
def ShiftNamesSaid : Prop := shiftNamesRow.holds Tryd.pinned (OpenSpec.ofChange shiftNamesSpec)

/-- ITS FALSE NEIGHBOUR: 'it returns false'. Refute it at one input. -/
def shiftNamesWrong : ChangeSpec := { name := "shiftNames", fn := fun _ => fun
  | [] => { results := [.lit (.bool false)], args := [] }
  | _ => none }
def ShiftNamesWrongFalsely : Prop := shiftNamesRow.holds Tryd.pinned (OpenSpec.ofChange shiftNamesWrong)

/- THE SECOND FORM. 'bulk': how many values and letters a reading holds, each counted each time it is reached (what is shared counts as often as it is met; a slice's spare places count too). A statement '..UptoSaid' is the law's where the arguments, and the package variables that the reading takes, are together of bulk at most 1048576: NARROWER than '..Said'. Prove '..Said' where nothing that the law and all that it calls make is longer than what came in: it says more and counts as full. Else prove '..UptoSaid'. A law counts once. -/
mutual
def uptoBulk {H : Type} : DataW H → Nat
  | .lit (.string bytes) => bytes.length + 1
  | .lit _ => 1
  | .nil => 1
  | .ptr d => uptoBulk d + 1
  | .slice elems spare => uptoBulkAll elems + uptoBulkAll spare + 1
  | .agg parts => uptoBulkAll parts + 1
  | .iface _ d => uptoBulk d + 1
  | .map entries => uptoBulkEntries entries + 1
  | .held _ => 1
def uptoBulkAll {H : Type} : List (DataW H) → Nat
  | [] => 0
  | d :: r => uptoBulk d + uptoBulkAll r
def uptoBulkEntries {H : Type} : List (Lit × DataW H) → Nat
  | [] => 0
  | x :: r => uptoBulkEntry x + uptoBulkEntries r
def uptoBulkEntry {H : Type} : Lit × DataW H → Nat
  | (.string bytes, d) => bytes.length + uptoBulk d + 1
  | (_, d) => uptoBulk d + 1
 end
def uptoSmall : (H : Type) → List (DataW H) → Bool := fun _ ds => decide (uptoBulkAll ds ≤ 1048576)
def OpenSpec.upto (s : _root_.Go.ChangeSpec) : _root_.Go.OpenSpec := { _root_.Go.OpenSpec.ofChange s with cond := some uptoSmall }

/-- 'weepholelaw18.ShiftMatches', WHERE WHAT IT READS IS OF BULK AT MOST 1048576: true; the input reads as it did. -/
def shiftMatchesUptoRow : OpenClaim := { program := "ytjcnhnifageikaadoor", sum := "79f577c6bc1857c23cc073656a0a03383c6f1ec519c89ae344f95b60b08fbf86", func := "weephole/weepholelaw18.ShiftMatches", spec := "shiftMatches", unfollowed := true, recurses := true, named := ["weephole/weepholelaw18.ops"], apart := false, laid := [("weephole/weepholelaw18.ops", laid_weephole_weepholelaw18_ops)], narrowed := true }
def ShiftMatchesUptoSaid : Prop := shiftMatchesUptoRow.holds Tryd.pinned (OpenSpec.upto shiftMatchesSpec)

/-- 'weepholelaw18.ShiftWords', WHERE WHAT IT READS IS OF BULK AT MOST 1048576: true; the input reads as it did. -/
def shiftWordsUptoRow : OpenClaim := { program := "ytjcnhnifageikaadoor", sum := "79f577c6bc1857c23cc073656a0a03383c6f1ec519c89ae344f95b60b08fbf86", func := "weephole/weepholelaw18.ShiftWords", spec := "shiftWords", unfollowed := true, recurses := true, named := ["weephole/weepholelaw18.ops"], apart := false, laid := [("weephole/weepholelaw18.ops", laid_weephole_weepholelaw18_ops)], narrowed := true }
def ShiftWordsUptoSaid : Prop := shiftWordsUptoRow.holds Tryd.pinned (OpenSpec.upto shiftWordsSpec)

/-- 'weepholelaw18.ShiftEdges', WHERE WHAT IT READS IS OF BULK AT MOST 1048576: true; the input reads as it did. -/
def shiftEdgesUptoRow : OpenClaim := { program := "ytjcnhnifageikaadoor", sum := "79f577c6bc1857c23cc073656a0a03383c6f1ec519c89ae344f95b60b08fbf86", func := "weephole/weepholelaw18.ShiftEdges", spec := "shiftEdges", unfollowed := true, recurses := true, named := ["weephole/weepholelaw18.ops"], apart := false, laid := [("weephole/weepholelaw18.ops", laid_weephole_weepholelaw18_ops)], narrowed := true }
def ShiftEdgesUptoSaid : Prop := shiftEdgesUptoRow.holds Tryd.pinned (OpenSpec.upto shiftEdgesSpec)

/-- 'weepholelaw18.ShiftTwice', WHERE WHAT IT READS IS OF BULK AT MOST 1048576: true; the input reads as it did. -/
def shiftTwiceUptoRow : OpenClaim := { program := "ytjcnhnifageikaadoor", sum := "79f577c6bc1857c23cc073656a0a03383c6f1ec519c89ae344f95b60b08fbf86", func := "weephole/weepholelaw18.ShiftTwice", spec := "shiftTwice", unfollowed := true, recurses := true, named := ["weephole/weepholelaw18.ops"], apart := false, laid := [("weephole/weepholelaw18.ops", laid_weephole_weepholelaw18_ops)], narrowed := true }
def ShiftTwiceUptoSaid : Prop := shiftTwiceUptoRow.holds Tryd.pinned (OpenSpec.upto shiftTwiceSpec)

/-- 'weepholelaw18.ShiftSigned', WHERE WHAT IT READS IS OF BULK AT MOST 1048576: true; the input reads as it did. -/
def shiftSignedUptoRow : OpenClaim := { program := "ytjcnhnifageikaadoor", sum := "79f577c6bc1857c23cc073656a0a03383c6f1ec519c89ae344f95b60b08fbf86", func := "weephole/weepholelaw18.ShiftSigned", spec := "shiftSigned", unfollowed := true, recurses := true, named := ["weephole/weepholelaw18.ops"], apart := false, laid := [("weephole/weepholelaw18.ops", laid_weephole_weepholelaw18_ops)], narrowed := true }
def ShiftSignedUptoSaid : Prop := shiftSignedUptoRow.holds Tryd.pinned (OpenSpec.upto shiftSignedSpec)

/-- 'weepholelaw18.ShiftFew', WHERE WHAT IT READS IS OF BULK AT MOST 1048576: true; the input reads as it did. -/
def shiftFewUptoRow : OpenClaim := { program := "ytjcnhnifageikaadoor", sum := "79f577c6bc1857c23cc073656a0a03383c6f1ec519c89ae344f95b60b08fbf86", func := "weephole/weepholelaw18.ShiftFew", spec := "shiftFew", unfollowed := true, recurses := true, named := ["weephole/weepholelaw18.ops"], apart := false, laid := [("weephole/weepholelaw18.ops", laid_weephole_weepholelaw18_ops)], narrowed := true }
def ShiftFewUptoSaid : Prop := shiftFewUptoRow.holds Tryd.pinned (OpenSpec.upto shiftFewSpec)

/-- 'weepholelaw18.ShiftNames', WHERE WHAT IT READS IS OF BULK AT MOST 1048576: true; the input reads as it did. -/
def shiftNamesUptoRow : OpenClaim := { program := "ytjcnhnifageikaadoor", sum := "79f577c6bc1857c23cc073656a0a03383c6f1ec519c89ae344f95b60b08fbf86", func := "weephole/weepholelaw18.ShiftNames", spec := "shiftNames", unfollowed := true, recurses := true, named := ["weephole/weepholelaw18.ops"], apart := false, laid := [("weephole/weepholelaw18.ops", laid_weephole_weepholelaw18_ops)], narrowed := true }
def ShiftNamesUptoSaid : Prop := shiftNamesUptoRow.holds Tryd.pinned (OpenSpec.upto shiftNamesSpec)

end Rows
end Go.Proofs.YtjcnhnifageikaaDoor
