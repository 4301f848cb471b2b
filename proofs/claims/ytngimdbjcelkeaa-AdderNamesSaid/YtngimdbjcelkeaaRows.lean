/-
  No cell of these rows narrows 'for every input' (looked for: loops, veiled, ifaces, maps, wideKeys, modest, calm, conditions, laid).
  DERIVED. THE GIVEN ROWS OF THIS SEAT. 20 by the template 'for every input the law returns true; each argument reads behind the call as it read before'; 0 by the template 'total and deterministic' (their statements: YtngimdbjcelkeaaTotals.lean).
  GIVEN WITH THE SEED: the statements are not yours to turn. If you find one false, say at which input.
  Laid BY PROGRAM, IN A SANDBOX (cutbox-rows.mjs): the forced cells as the released guide's own fill.sh prints them over the translation 168aa0502ff74a02… (all of the seat's roots in one cut). By AI agents, Wed Nov 11 2026. No macro, syntax, notation, axiom, sorry.
-/
import Derived.Test.YtngimdbjcelkeaaChecked
import GoSem.Claim
import GoSem.ClaimJoined
import GoSem.ClaimMapViews
import Derived.JoinedTies
import Derived.KernelRfl
namespace Go.Proofs.Ytngimdbjcelkeaa
/- THE CELL 'sum', in the pinned program and in every row, IS THE sha256 OF THE DUMP (.gsa) THAT YtngimdbjcelkeaaProg.lean LOADS. Nothing in Lean hashes anything: it is a label: what it is worth is what the hold of that sum in a sandbox is worth. -/
noncomputable def Try.pinned : Pinned := { name := "ytngimdbjcelkeaa", sum := "168aa0502ff74a024762bb481abcb600dea7625682c62a62011396fc01ddbbb1", checked := Try.checked }
namespace Rows
def none {H : Type} : Left H := { results := [], args := [] }

/-- 'weepholelaw16.AdderSums': WHATEVER THE INPUT: true; the input reads as it did. -/
def adderSumsSpec : ChangeSpec := { name := "adderSums", fn := fun _ => fun
  | [d1, d2] => { results := [.lit (.bool true)], args := [d1, d2] }
  | _ => none }
def adderSumsRow : OpenClaim := { program := "ytngimdbjcelkeaa", sum := "168aa0502ff74a024762bb481abcb600dea7625682c62a62011396fc01ddbbb1", func := "weephole/weepholelaw16.AdderSums", spec := "adderSums", unfollowed := true, recurses := true, plainKeys := false, apart := false }
def AdderSumsSaid : Prop := adderSumsRow.holds Try.pinned (OpenSpec.ofChange adderSumsSpec)

/-- ITS FALSE NEIGHBOUR: 'it returns false'. Refute it at one input. -/
def adderSumsWrong : ChangeSpec := { name := "adderSums", fn := fun _ => fun
  | [d1, d2] => { results := [.lit (.bool false)], args := [d1, d2] }
  | _ => none }
def AdderSumsWrongFalsely : Prop := adderSumsRow.holds Try.pinned (OpenSpec.ofChange adderSumsWrong)

/-- 'weepholelaw16.AdderAgain': WHATEVER THE INPUT: true; the input reads as it did. -/
def adderAgainSpec : ChangeSpec := { name := "adderAgain", fn := fun _ => fun
  | [d] => { results := [.lit (.bool true)], args := [d] }
  | _ => none }
def adderAgainRow : OpenClaim := { program := "ytngimdbjcelkeaa", sum := "168aa0502ff74a024762bb481abcb600dea7625682c62a62011396fc01ddbbb1", func := "weephole/weepholelaw16.AdderAgain", spec := "adderAgain", unfollowed := true, recurses := true, plainKeys := false, apart := false }
def AdderAgainSaid : Prop := adderAgainRow.holds Try.pinned (OpenSpec.ofChange adderAgainSpec)

/-- ITS FALSE NEIGHBOUR: 'it returns false'. Refute it at one input. -/
def adderAgainWrong : ChangeSpec := { name := "adderAgain", fn := fun _ => fun
  | [d] => { results := [.lit (.bool false)], args := [d] }
  | _ => none }
def AdderAgainWrongFalsely : Prop := adderAgainRow.holds Try.pinned (OpenSpec.ofChange adderAgainWrong)

/-- 'weepholelaw16.AdderNames': WHATEVER THE INPUT: true; the input reads as it did. -/
def adderNamesSpec : ChangeSpec := { name := "adderNames", fn := fun _ => fun
  | [] => { results := [.lit (.bool true)], args := [] }
  | _ => none }
def adderNamesRow : OpenClaim := { program := "ytngimdbjcelkeaa", sum := "168aa0502ff74a024762bb481abcb600dea7625682c62a62011396fc01ddbbb1", func := "weephole/weepholelaw16.AdderNames", spec := "adderNames", unfollowed := true, recurses := true, plainKeys := false, apart := false }
def AdderNamesSaid : Prop := adderNamesRow.holds Try.pinned (OpenSpec.ofChange adderNamesSpec)

/-- ITS FALSE NEIGHBOUR: 'it returns false'. Refute it at one input. -/
def adderNamesWrong : ChangeSpec := { name := "adderNames", fn := fun _ => fun
  | [] => { results := [.lit (.bool false)], args := [] }
  | _ => none }
def AdderNamesWrongFalsely : Prop := adderNamesRow.holds Try.pinned (OpenSpec.ofChange adderNamesWrong)

/-- 'weepholelaw16.AdderCompares': WHATEVER THE INPUT: true; the input reads as it did. -/
def adderComparesSpec : ChangeSpec := { name := "adderCompares", fn := fun _ => fun
  | [d1, d2] => { results := [.lit (.bool true)], args := [d1, d2] }
  | _ => none }
def adderComparesRow : OpenClaim := { program := "ytngimdbjcelkeaa", sum := "168aa0502ff74a024762bb481abcb600dea7625682c62a62011396fc01ddbbb1", func := "weephole/weepholelaw16.AdderCompares", spec := "adderCompares", unfollowed := true, recurses := true, plainKeys := false, apart := false }
def AdderComparesSaid : Prop := adderComparesRow.holds Try.pinned (OpenSpec.ofChange adderComparesSpec)

/-- ITS FALSE NEIGHBOUR: 'it returns false'. Refute it at one input. -/
def adderComparesWrong : ChangeSpec := { name := "adderCompares", fn := fun _ => fun
  | [d1, d2] => { results := [.lit (.bool false)], args := [d1, d2] }
  | _ => none }
def AdderComparesWrongFalsely : Prop := adderComparesRow.holds Try.pinned (OpenSpec.ofChange adderComparesWrong)

/-- 'weepholelaw16.AdderSigned': WHATEVER THE INPUT: true; the input reads as it did. -/
def adderSignedSpec : ChangeSpec := { name := "adderSigned", fn := fun _ => fun
  | [d1, d2] => { results := [.lit (.bool true)], args := [d1, d2] }
  | _ => none }
def adderSignedRow : OpenClaim := { program := "ytngimdbjcelkeaa", sum := "168aa0502ff74a024762bb481abcb600dea7625682c62a62011396fc01ddbbb1", func := "weephole/weepholelaw16.AdderSigned", spec := "adderSigned", unfollowed := true, recurses := true, plainKeys := false, apart := false }
def AdderSignedSaid : Prop := adderSignedRow.holds Try.pinned (OpenSpec.ofChange adderSignedSpec)

/-- ITS FALSE NEIGHBOUR: 'it returns false'. Refute it at one input. -/
def adderSignedWrong : ChangeSpec := { name := "adderSigned", fn := fun _ => fun
  | [d1, d2] => { results := [.lit (.bool false)], args := [d1, d2] }
  | _ => none }
def AdderSignedWrongFalsely : Prop := adderSignedRow.holds Try.pinned (OpenSpec.ofChange adderSignedWrong)

/-- 'weepholelaw16.AdderFew': WHATEVER THE INPUT: true; the input reads as it did. -/
def adderFewSpec : ChangeSpec := { name := "adderFew", fn := fun _ => fun
  | [d1, d2] => { results := [.lit (.bool true)], args := [d1, d2] }
  | _ => none }
def adderFewRow : OpenClaim := { program := "ytngimdbjcelkeaa", sum := "168aa0502ff74a024762bb481abcb600dea7625682c62a62011396fc01ddbbb1", func := "weephole/weepholelaw16.AdderFew", spec := "adderFew", unfollowed := true, recurses := true, plainKeys := false, apart := false }
def AdderFewSaid : Prop := adderFewRow.holds Try.pinned (OpenSpec.ofChange adderFewSpec)

/-- ITS FALSE NEIGHBOUR: 'it returns false'. Refute it at one input. -/
def adderFewWrong : ChangeSpec := { name := "adderFew", fn := fun _ => fun
  | [d1, d2] => { results := [.lit (.bool false)], args := [d1, d2] }
  | _ => none }
def AdderFewWrongFalsely : Prop := adderFewRow.holds Try.pinned (OpenSpec.ofChange adderFewWrong)

/-- 'weepholelaw17.MuldivNames': WHATEVER THE INPUT: true; the input reads as it did. -/
def muldivNamesSpec : ChangeSpec := { name := "muldivNames", fn := fun _ => fun
  | [] => { results := [.lit (.bool true)], args := [] }
  | _ => none }
def muldivNamesRow : OpenClaim := { program := "ytngimdbjcelkeaa", sum := "168aa0502ff74a024762bb481abcb600dea7625682c62a62011396fc01ddbbb1", func := "weephole/weepholelaw17.MuldivNames", spec := "muldivNames", unfollowed := true, recurses := true, plainKeys := false, apart := false }
def MuldivNamesSaid : Prop := muldivNamesRow.holds Try.pinned (OpenSpec.ofChange muldivNamesSpec)

/-- ITS FALSE NEIGHBOUR: 'it returns false'. Refute it at one input. -/
def muldivNamesWrong : ChangeSpec := { name := "muldivNames", fn := fun _ => fun
  | [] => { results := [.lit (.bool false)], args := [] }
  | _ => none }
def MuldivNamesWrongFalsely : Prop := muldivNamesRow.holds Try.pinned (OpenSpec.ofChange muldivNamesWrong)

/-- 'weepholelaw17.MuldivMul': WHATEVER THE INPUT: true; the input reads as it did. -/
def muldivMulSpec : ChangeSpec := { name := "muldivMul", fn := fun _ => fun
  | [d] => { results := [.lit (.bool true)], args := [d] }
  | _ => none }
def muldivMulRow : OpenClaim := { program := "ytngimdbjcelkeaa", sum := "168aa0502ff74a024762bb481abcb600dea7625682c62a62011396fc01ddbbb1", func := "weephole/weepholelaw17.MuldivMul", spec := "muldivMul", unfollowed := true, recurses := true, plainKeys := false, apart := false }
def MuldivMulSaid : Prop := muldivMulRow.holds Try.pinned (OpenSpec.ofChange muldivMulSpec)

/-- ITS FALSE NEIGHBOUR: 'it returns false'. Refute it at one input. -/
def muldivMulWrong : ChangeSpec := { name := "muldivMul", fn := fun _ => fun
  | [d] => { results := [.lit (.bool false)], args := [d] }
  | _ => none }
def MuldivMulWrongFalsely : Prop := muldivMulRow.holds Try.pinned (OpenSpec.ofChange muldivMulWrong)

/-- 'weepholelaw17.MuldivDiv': WHATEVER THE INPUT: true; the input reads as it did. -/
def muldivDivSpec : ChangeSpec := { name := "muldivDiv", fn := fun _ => fun
  | [d] => { results := [.lit (.bool true)], args := [d] }
  | _ => none }
def muldivDivRow : OpenClaim := { program := "ytngimdbjcelkeaa", sum := "168aa0502ff74a024762bb481abcb600dea7625682c62a62011396fc01ddbbb1", func := "weephole/weepholelaw17.MuldivDiv", spec := "muldivDiv", unfollowed := true, recurses := true, plainKeys := false, apart := false }
def MuldivDivSaid : Prop := muldivDivRow.holds Try.pinned (OpenSpec.ofChange muldivDivSpec)

/-- ITS FALSE NEIGHBOUR: 'it returns false'. Refute it at one input. -/
def muldivDivWrong : ChangeSpec := { name := "muldivDiv", fn := fun _ => fun
  | [d] => { results := [.lit (.bool false)], args := [d] }
  | _ => none }
def MuldivDivWrongFalsely : Prop := muldivDivRow.holds Try.pinned (OpenSpec.ofChange muldivDivWrong)

/-- 'weepholelaw17.MuldivBack': WHATEVER THE INPUT: true; the input reads as it did. -/
def muldivBackSpec : ChangeSpec := { name := "muldivBack", fn := fun _ => fun
  | [d] => { results := [.lit (.bool true)], args := [d] }
  | _ => none }
def muldivBackRow : OpenClaim := { program := "ytngimdbjcelkeaa", sum := "168aa0502ff74a024762bb481abcb600dea7625682c62a62011396fc01ddbbb1", func := "weephole/weepholelaw17.MuldivBack", spec := "muldivBack", unfollowed := true, recurses := true, plainKeys := false, apart := false }
def MuldivBackSaid : Prop := muldivBackRow.holds Try.pinned (OpenSpec.ofChange muldivBackSpec)

/-- ITS FALSE NEIGHBOUR: 'it returns false'. Refute it at one input. -/
def muldivBackWrong : ChangeSpec := { name := "muldivBack", fn := fun _ => fun
  | [d] => { results := [.lit (.bool false)], args := [d] }
  | _ => none }
def MuldivBackWrongFalsely : Prop := muldivBackRow.holds Try.pinned (OpenSpec.ofChange muldivBackWrong)

/-- 'weepholelaw17.MuldivFew': WHATEVER THE INPUT: true; the input reads as it did. -/
def muldivFewSpec : ChangeSpec := { name := "muldivFew", fn := fun _ => fun
  | [d] => { results := [.lit (.bool true)], args := [d] }
  | _ => none }
def muldivFewRow : OpenClaim := { program := "ytngimdbjcelkeaa", sum := "168aa0502ff74a024762bb481abcb600dea7625682c62a62011396fc01ddbbb1", func := "weephole/weepholelaw17.MuldivFew", spec := "muldivFew", unfollowed := true, recurses := true, plainKeys := false, apart := false }
def MuldivFewSaid : Prop := muldivFewRow.holds Try.pinned (OpenSpec.ofChange muldivFewSpec)

/-- ITS FALSE NEIGHBOUR: 'it returns false'. Refute it at one input. -/
def muldivFewWrong : ChangeSpec := { name := "muldivFew", fn := fun _ => fun
  | [d] => { results := [.lit (.bool false)], args := [d] }
  | _ => none }
def MuldivFewWrongFalsely : Prop := muldivFewRow.holds Try.pinned (OpenSpec.ofChange muldivFewWrong)

/-- 'weepholelaw17.MuldivShift': WHATEVER THE INPUT: true; the input reads as it did. -/
def muldivShiftSpec : ChangeSpec := { name := "muldivShift", fn := fun _ => fun
  | [d1, d2] => { results := [.lit (.bool true)], args := [d1, d2] }
  | _ => none }
def muldivShiftRow : OpenClaim := { program := "ytngimdbjcelkeaa", sum := "168aa0502ff74a024762bb481abcb600dea7625682c62a62011396fc01ddbbb1", func := "weephole/weepholelaw17.MuldivShift", spec := "muldivShift", unfollowed := true, recurses := true, plainKeys := false, apart := false }
def MuldivShiftSaid : Prop := muldivShiftRow.holds Try.pinned (OpenSpec.ofChange muldivShiftSpec)

/-- ITS FALSE NEIGHBOUR: 'it returns false'. Refute it at one input. -/
def muldivShiftWrong : ChangeSpec := { name := "muldivShift", fn := fun _ => fun
  | [d1, d2] => { results := [.lit (.bool false)], args := [d1, d2] }
  | _ => none }
def MuldivShiftWrongFalsely : Prop := muldivShiftRow.holds Try.pinned (OpenSpec.ofChange muldivShiftWrong)

/-- 'weepholelaw17.MuldivLow': WHATEVER THE INPUT: true; the input reads as it did. -/
def muldivLowSpec : ChangeSpec := { name := "muldivLow", fn := fun _ => fun
  | [d1, d2] => { results := [.lit (.bool true)], args := [d1, d2] }
  | _ => none }
def muldivLowRow : OpenClaim := { program := "ytngimdbjcelkeaa", sum := "168aa0502ff74a024762bb481abcb600dea7625682c62a62011396fc01ddbbb1", func := "weephole/weepholelaw17.MuldivLow", spec := "muldivLow", unfollowed := true, recurses := true, plainKeys := false, apart := false }
def MuldivLowSaid : Prop := muldivLowRow.holds Try.pinned (OpenSpec.ofChange muldivLowSpec)

/-- ITS FALSE NEIGHBOUR: 'it returns false'. Refute it at one input. -/
def muldivLowWrong : ChangeSpec := { name := "muldivLow", fn := fun _ => fun
  | [d1, d2] => { results := [.lit (.bool false)], args := [d1, d2] }
  | _ => none }
def MuldivLowWrongFalsely : Prop := muldivLowRow.holds Try.pinned (OpenSpec.ofChange muldivLowWrong)

/-- 'weepholelaw17.MuldivPartial': WHATEVER THE INPUT: true; the input reads as it did. -/
def muldivPartialSpec : ChangeSpec := { name := "muldivPartial", fn := fun _ => fun
  | [d1, d2, d3] => { results := [.lit (.bool true)], args := [d1, d2, d3] }
  | _ => none }
def muldivPartialRow : OpenClaim := { program := "ytngimdbjcelkeaa", sum := "168aa0502ff74a024762bb481abcb600dea7625682c62a62011396fc01ddbbb1", func := "weephole/weepholelaw17.MuldivPartial", spec := "muldivPartial", unfollowed := true, recurses := true, plainKeys := false, apart := false }
def MuldivPartialSaid : Prop := muldivPartialRow.holds Try.pinned (OpenSpec.ofChange muldivPartialSpec)

/-- ITS FALSE NEIGHBOUR: 'it returns false'. Refute it at one input. -/
def muldivPartialWrong : ChangeSpec := { name := "muldivPartial", fn := fun _ => fun
  | [d1, d2, d3] => { results := [.lit (.bool false)], args := [d1, d2, d3] }
  | _ => none }
def MuldivPartialWrongFalsely : Prop := muldivPartialRow.holds Try.pinned (OpenSpec.ofChange muldivPartialWrong)

/-- 'weepholelaw19.BlastOnce': WHATEVER THE INPUT: true; the input reads as it did. -/
def blastOnceSpec : ChangeSpec := { name := "blastOnce", fn := fun _ => fun
  | [d1, d2, d3] => { results := [.lit (.bool true)], args := [d1, d2, d3] }
  | _ => none }
def blastOnceRow : OpenClaim := { program := "ytngimdbjcelkeaa", sum := "168aa0502ff74a024762bb481abcb600dea7625682c62a62011396fc01ddbbb1", func := "weephole/weepholelaw19.BlastOnce", spec := "blastOnce", unfollowed := true, recurses := true, plainKeys := false, apart := false }
def BlastOnceSaid : Prop := blastOnceRow.holds Try.pinned (OpenSpec.ofChange blastOnceSpec)

/-- ITS FALSE NEIGHBOUR: 'it returns false'. Refute it at one input. -/
def blastOnceWrong : ChangeSpec := { name := "blastOnce", fn := fun _ => fun
  | [d1, d2, d3] => { results := [.lit (.bool false)], args := [d1, d2, d3] }
  | _ => none }
def BlastOnceWrongFalsely : Prop := blastOnceRow.holds Try.pinned (OpenSpec.ofChange blastOnceWrong)

/-- 'weepholelaw19.BlastApart': WHATEVER THE INPUT: true; the input reads as it did. -/
def blastApartSpec : ChangeSpec := { name := "blastApart", fn := fun _ => fun
  | [d1, d2] => { results := [.lit (.bool true)], args := [d1, d2] }
  | _ => none }
def blastApartRow : OpenClaim := { program := "ytngimdbjcelkeaa", sum := "168aa0502ff74a024762bb481abcb600dea7625682c62a62011396fc01ddbbb1", func := "weephole/weepholelaw19.BlastApart", spec := "blastApart", unfollowed := true, recurses := true, plainKeys := false, apart := false }
def BlastApartSaid : Prop := blastApartRow.holds Try.pinned (OpenSpec.ofChange blastApartSpec)

/-- ITS FALSE NEIGHBOUR: 'it returns false'. Refute it at one input. -/
def blastApartWrong : ChangeSpec := { name := "blastApart", fn := fun _ => fun
  | [d1, d2] => { results := [.lit (.bool false)], args := [d1, d2] }
  | _ => none }
def BlastApartWrongFalsely : Prop := blastApartRow.holds Try.pinned (OpenSpec.ofChange blastApartWrong)

/-- 'weepholelaw19.BlastNames': WHATEVER THE INPUT: true; the input reads as it did. -/
def blastNamesSpec : ChangeSpec := { name := "blastNames", fn := fun _ => fun
  | [] => { results := [.lit (.bool true)], args := [] }
  | _ => none }
def blastNamesRow : OpenClaim := { program := "ytngimdbjcelkeaa", sum := "168aa0502ff74a024762bb481abcb600dea7625682c62a62011396fc01ddbbb1", func := "weephole/weepholelaw19.BlastNames", spec := "blastNames", unfollowed := true, recurses := true, plainKeys := false, apart := false }
def BlastNamesSaid : Prop := blastNamesRow.holds Try.pinned (OpenSpec.ofChange blastNamesSpec)

/-- ITS FALSE NEIGHBOUR: 'it returns false'. Refute it at one input. -/
def blastNamesWrong : ChangeSpec := { name := "blastNames", fn := fun _ => fun
  | [] => { results := [.lit (.bool false)], args := [] }
  | _ => none }
def BlastNamesWrongFalsely : Prop := blastNamesRow.holds Try.pinned (OpenSpec.ofChange blastNamesWrong)

/-- 'weepholelaw19.BlastFew': WHATEVER THE INPUT: true; the input reads as it did. -/
def blastFewSpec : ChangeSpec := { name := "blastFew", fn := fun _ => fun
  | [d1, d2, d3] => { results := [.lit (.bool true)], args := [d1, d2, d3] }
  | _ => none }
def blastFewRow : OpenClaim := { program := "ytngimdbjcelkeaa", sum := "168aa0502ff74a024762bb481abcb600dea7625682c62a62011396fc01ddbbb1", func := "weephole/weepholelaw19.BlastFew", spec := "blastFew", unfollowed := true, recurses := true, plainKeys := false, apart := false }
def BlastFewSaid : Prop := blastFewRow.holds Try.pinned (OpenSpec.ofChange blastFewSpec)

/-- ITS FALSE NEIGHBOUR: 'it returns false'. Refute it at one input. -/
def blastFewWrong : ChangeSpec := { name := "blastFew", fn := fun _ => fun
  | [d1, d2, d3] => { results := [.lit (.bool false)], args := [d1, d2, d3] }
  | _ => none }
def BlastFewWrongFalsely : Prop := blastFewRow.holds Try.pinned (OpenSpec.ofChange blastFewWrong)

/-- 'weepholelaw19.BlastValues': WHATEVER THE INPUT: true; the input reads as it did. -/
def blastValuesSpec : ChangeSpec := { name := "blastValues", fn := fun _ => fun
  | [d1, d2, d3] => { results := [.lit (.bool true)], args := [d1, d2, d3] }
  | _ => none }
def blastValuesRow : OpenClaim := { program := "ytngimdbjcelkeaa", sum := "168aa0502ff74a024762bb481abcb600dea7625682c62a62011396fc01ddbbb1", func := "weephole/weepholelaw19.BlastValues", spec := "blastValues", unfollowed := true, recurses := true, plainKeys := false, apart := false }
def BlastValuesSaid : Prop := blastValuesRow.holds Try.pinned (OpenSpec.ofChange blastValuesSpec)

/-- ITS FALSE NEIGHBOUR: 'it returns false'. Refute it at one input. -/
def blastValuesWrong : ChangeSpec := { name := "blastValues", fn := fun _ => fun
  | [d1, d2, d3] => { results := [.lit (.bool false)], args := [d1, d2, d3] }
  | _ => none }
def BlastValuesWrongFalsely : Prop := blastValuesRow.holds Try.pinned (OpenSpec.ofChange blastValuesWrong)

/-- 'weepholelaw19.BlastLift': WHATEVER THE INPUT: true; the input reads as it did. -/
def blastLiftSpec : ChangeSpec := { name := "blastLift", fn := fun _ => fun
  | [d1, d2, d3, d4] => { results := [.lit (.bool true)], args := [d1, d2, d3, d4] }
  | _ => none }
def blastLiftRow : OpenClaim := { program := "ytngimdbjcelkeaa", sum := "168aa0502ff74a024762bb481abcb600dea7625682c62a62011396fc01ddbbb1", func := "weephole/weepholelaw19.BlastLift", spec := "blastLift", unfollowed := true, recurses := true, plainKeys := false, apart := false }
def BlastLiftSaid : Prop := blastLiftRow.holds Try.pinned (OpenSpec.ofChange blastLiftSpec)

/-- ITS FALSE NEIGHBOUR: 'it returns false'. Refute it at one input. -/
def blastLiftWrong : ChangeSpec := { name := "blastLift", fn := fun _ => fun
  | [d1, d2, d3, d4] => { results := [.lit (.bool false)], args := [d1, d2, d3, d4] }
  | _ => none }
def BlastLiftWrongFalsely : Prop := blastLiftRow.holds Try.pinned (OpenSpec.ofChange blastLiftWrong)

/- THE SECOND FORM. 'bulk': how many values and letters a reading holds, each counted each time it is reached (what is shared counts as often as it is met; a slice's spare places count too). A statement '..UptoSaid' is the law's where the arguments, and the package variables that the reading takes, are together of bulk at most 1048576: NARROWER than '..Said'. Prove '..Said' where nothing that the law and all that it calls make is longer than what came in: it says more and counts as full. Else prove '..UptoSaid'. A law counts once. -/
mutual
def uptoBulk {H : Type} : DataW H → Nat
  | .lit (.string bytes) => bytes.length + 1
  | .lit _ => 1
  | .nil => 1
  | .ptr d => uptoBulk d + 1
  | .slice elems spare => uptoBulkAll elems + uptoBulkAll spare + 1
  | .agg parts => uptoBulkAll parts + 1
  | .iface _ d => uptoBulk d + 1
  | .map entries => uptoBulkEntries entries + 1
  | .held _ => 1
def uptoBulkAll {H : Type} : List (DataW H) → Nat
  | [] => 0
  | d :: r => uptoBulk d + uptoBulkAll r
def uptoBulkEntries {H : Type} : List (Lit × DataW H) → Nat
  | [] => 0
  | x :: r => uptoBulkEntry x + uptoBulkEntries r
def uptoBulkEntry {H : Type} : Lit × DataW H → Nat
  | (.string bytes, d) => bytes.length + uptoBulk d + 1
  | (_, d) => uptoBulk d + 1
 end
def uptoSmall : (H : Type) → List (DataW H) → Bool := fun _ ds => decide (uptoBulkAll ds ≤ 1048576)
def OpenSpec.upto (s : _root_.Go.ChangeSpec) : _root_.Go.OpenSpec := { _root_.Go.OpenSpec.ofChange s with cond := some uptoSmall }

/-- 'weepholelaw16.AdderSums', WHERE WHAT IT READS IS OF BULK AT MOST 1048576: true; the input reads as it did. -/
def adderSumsUptoRow : OpenClaim := { program := "ytngimdbjcelkeaa", sum := "168aa0502ff74a024762bb481abcb600dea7625682c62a62011396fc01ddbbb1", func := "weephole/weepholelaw16.AdderSums", spec := "adderSums", unfollowed := true, recurses := true, plainKeys := false, apart := false, narrowed := true }
def AdderSumsUptoSaid : Prop := adderSumsUptoRow.holds Try.pinned (OpenSpec.upto adderSumsSpec)

/-- 'weepholelaw16.AdderAgain', WHERE WHAT IT READS IS OF BULK AT MOST 1048576: true; the input reads as it did. -/
def adderAgainUptoRow : OpenClaim := { program := "ytngimdbjcelkeaa", sum := "168aa0502ff74a024762bb481abcb600dea7625682c62a62011396fc01ddbbb1", func := "weephole/weepholelaw16.AdderAgain", spec := "adderAgain", unfollowed := true, recurses := true, plainKeys := false, apart := false, narrowed := true }
def AdderAgainUptoSaid : Prop := adderAgainUptoRow.holds Try.pinned (OpenSpec.upto adderAgainSpec)

/-- 'weepholelaw16.AdderNames', WHERE WHAT IT READS IS OF BULK AT MOST 1048576: true; the input reads as it did. -/
def adderNamesUptoRow : OpenClaim := { program := "ytngimdbjcelkeaa", sum := "168aa0502ff74a024762bb481abcb600dea7625682c62a62011396fc01ddbbb1", func := "weephole/weepholelaw16.AdderNames", spec := "adderNames", unfollowed := true, recurses := true, plainKeys := false, apart := false, narrowed := true }
def AdderNamesUptoSaid : Prop := adderNamesUptoRow.holds Try.pinned (OpenSpec.upto adderNamesSpec)

/-- 'weepholelaw16.AdderCompares', WHERE WHAT IT READS IS OF BULK AT MOST 1048576: true; the input reads as it did. -/
def adderComparesUptoRow : OpenClaim := { program := "ytngimdbjcelkeaa", sum := "168aa0502ff74a024762bb481abcb600dea7625682c62a62011396fc01ddbbb1", func := "weephole/weepholelaw16.AdderCompares", spec := "adderCompares", unfollowed := true, recurses := true, plainKeys := false, apart := false, narrowed := true }
def AdderComparesUptoSaid : Prop := adderComparesUptoRow.holds Try.pinned (OpenSpec.upto adderComparesSpec)

/-- 'weepholelaw16.AdderSigned', WHERE WHAT IT READS IS OF BULK AT MOST 1048576: true; the input reads as it did. -/
def adderSignedUptoRow : OpenClaim := { program := "ytngimdbjcelkeaa", sum := "168aa0502ff74a024762bb481abcb600dea7625682c62a62011396fc01ddbbb1", func := "weephole/weepholelaw16.AdderSigned", spec := "adderSigned", unfollowed := true, recurses := true, plainKeys := false, apart := false, narrowed := true }
def AdderSignedUptoSaid : Prop := adderSignedUptoRow.holds Try.pinned (OpenSpec.upto adderSignedSpec)

/-- 'weepholelaw16.AdderFew', WHERE WHAT IT READS IS OF BULK AT MOST 1048576: true; the input reads as it did. -/
def adderFewUptoRow : OpenClaim := { program := "ytngimdbjcelkeaa", sum := "168aa0502ff74a024762bb481abcb600dea7625682c62a62011396fc01ddbbb1", func := "weephole/weepholelaw16.AdderFew", spec := "adderFew", unfollowed := true, recurses := true, plainKeys := false, apart := false, narrowed := true }
def AdderFewUptoSaid : Prop := adderFewUptoRow.holds Try.pinned (OpenSpec.upto adderFewSpec)

/-- 'weepholelaw17.MuldivNames', WHERE WHAT IT READS IS OF BULK AT MOST 1048576: true; the input reads as it did. -/
def muldivNamesUptoRow : OpenClaim := { program := "ytngimdbjcelkeaa", sum := "168aa0502ff74a024762bb481abcb600dea7625682c62a62011396fc01ddbbb1", func := "weephole/weepholelaw17.MuldivNames", spec := "muldivNames", unfollowed := true, recurses := true, plainKeys := false, apart := false, narrowed := true }
def MuldivNamesUptoSaid : Prop := muldivNamesUptoRow.holds Try.pinned (OpenSpec.upto muldivNamesSpec)

/-- 'weepholelaw17.MuldivMul', WHERE WHAT IT READS IS OF BULK AT MOST 1048576: true; the input reads as it did. -/
def muldivMulUptoRow : OpenClaim := { program := "ytngimdbjcelkeaa", sum := "168aa0502ff74a024762bb481abcb600dea7625682c62a62011396fc01ddbbb1", func := "weephole/weepholelaw17.MuldivMul", spec := "muldivMul", unfollowed := true, recurses := true, plainKeys := false, apart := false, narrowed := true }
def MuldivMulUptoSaid : Prop := muldivMulUptoRow.holds Try.pinned (OpenSpec.upto muldivMulSpec)

/-- 'weepholelaw17.MuldivDiv', WHERE WHAT IT READS IS OF BULK AT MOST 1048576: true; the input reads as it did. -/
def muldivDivUptoRow : OpenClaim := { program := "ytngimdbjcelkeaa", sum := "168aa0502ff74a024762bb481abcb600dea7625682c62a62011396fc01ddbbb1", func := "weephole/weepholelaw17.MuldivDiv", spec := "muldivDiv", unfollowed := true, recurses := true, plainKeys := false, apart := false, narrowed := true }
def MuldivDivUptoSaid : Prop := muldivDivUptoRow.holds Try.pinned (OpenSpec.upto muldivDivSpec)

/-- 'weepholelaw17.MuldivBack', WHERE WHAT IT READS IS OF BULK AT MOST 1048576: true; the input reads as it did. -/
def muldivBackUptoRow : OpenClaim := { program := "ytngimdbjcelkeaa", sum := "168aa0502ff74a024762bb481abcb600dea7625682c62a62011396fc01ddbbb1", func := "weephole/weepholelaw17.MuldivBack", spec := "muldivBack", unfollowed := true, recurses := true, plainKeys := false, apart := false, narrowed := true }
def MuldivBackUptoSaid : Prop := muldivBackUptoRow.holds Try.pinned (OpenSpec.upto muldivBackSpec)

/-- 'weepholelaw17.MuldivFew', WHERE WHAT IT READS IS OF BULK AT MOST 1048576: true; the input reads as it did. -/
def muldivFewUptoRow : OpenClaim := { program := "ytngimdbjcelkeaa", sum := "168aa0502ff74a024762bb481abcb600dea7625682c62a62011396fc01ddbbb1", func := "weephole/weepholelaw17.MuldivFew", spec := "muldivFew", unfollowed := true, recurses := true, plainKeys := false, apart := false, narrowed := true }
def MuldivFewUptoSaid : Prop := muldivFewUptoRow.holds Try.pinned (OpenSpec.upto muldivFewSpec)

/-- 'weepholelaw17.MuldivShift', WHERE WHAT IT READS IS OF BULK AT MOST 1048576: true; the input reads as it did. -/
def muldivShiftUptoRow : OpenClaim := { program := "ytngimdbjcelkeaa", sum := "168aa0502ff74a024762bb481abcb600dea7625682c62a62011396fc01ddbbb1", func := "weephole/weepholelaw17.MuldivShift", spec := "muldivShift", unfollowed := true, recurses := true, plainKeys := false, apart := false, narrowed := true }
def MuldivShiftUptoSaid : Prop := muldivShiftUptoRow.holds Try.pinned (OpenSpec.upto muldivShiftSpec)

/-- 'weepholelaw17.MuldivLow', WHERE WHAT IT READS IS OF BULK AT MOST 1048576: true; the input reads as it did. -/
def muldivLowUptoRow : OpenClaim := { program := "ytngimdbjcelkeaa", sum := "168aa0502ff74a024762bb481abcb600dea7625682c62a62011396fc01ddbbb1", func := "weephole/weepholelaw17.MuldivLow", spec := "muldivLow", unfollowed := true, recurses := true, plainKeys := false, apart := false, narrowed := true }
def MuldivLowUptoSaid : Prop := muldivLowUptoRow.holds Try.pinned (OpenSpec.upto muldivLowSpec)

/-- 'weepholelaw17.MuldivPartial', WHERE WHAT IT READS IS OF BULK AT MOST 1048576: true; the input reads as it did. -/
def muldivPartialUptoRow : OpenClaim := { program := "ytngimdbjcelkeaa", sum := "168aa0502ff74a024762bb481abcb600dea7625682c62a62011396fc01ddbbb1", func := "weephole/weepholelaw17.MuldivPartial", spec := "muldivPartial", unfollowed := true, recurses := true, plainKeys := false, apart := false, narrowed := true }
def MuldivPartialUptoSaid : Prop := muldivPartialUptoRow.holds Try.pinned (OpenSpec.upto muldivPartialSpec)

/-- 'weepholelaw19.BlastOnce', WHERE WHAT IT READS IS OF BULK AT MOST 1048576: true; the input reads as it did. -/
def blastOnceUptoRow : OpenClaim := { program := "ytngimdbjcelkeaa", sum := "168aa0502ff74a024762bb481abcb600dea7625682c62a62011396fc01ddbbb1", func := "weephole/weepholelaw19.BlastOnce", spec := "blastOnce", unfollowed := true, recurses := true, plainKeys := false, apart := false, narrowed := true }
def BlastOnceUptoSaid : Prop := blastOnceUptoRow.holds Try.pinned (OpenSpec.upto blastOnceSpec)

/-- 'weepholelaw19.BlastApart', WHERE WHAT IT READS IS OF BULK AT MOST 1048576: true; the input reads as it did. -/
def blastApartUptoRow : OpenClaim := { program := "ytngimdbjcelkeaa", sum := "168aa0502ff74a024762bb481abcb600dea7625682c62a62011396fc01ddbbb1", func := "weephole/weepholelaw19.BlastApart", spec := "blastApart", unfollowed := true, recurses := true, plainKeys := false, apart := false, narrowed := true }
def BlastApartUptoSaid : Prop := blastApartUptoRow.holds Try.pinned (OpenSpec.upto blastApartSpec)

/-- 'weepholelaw19.BlastNames', WHERE WHAT IT READS IS OF BULK AT MOST 1048576: true; the input reads as it did. -/
def blastNamesUptoRow : OpenClaim := { program := "ytngimdbjcelkeaa", sum := "168aa0502ff74a024762bb481abcb600dea7625682c62a62011396fc01ddbbb1", func := "weephole/weepholelaw19.BlastNames", spec := "blastNames", unfollowed := true, recurses := true, plainKeys := false, apart := false, narrowed := true }
def BlastNamesUptoSaid : Prop := blastNamesUptoRow.holds Try.pinned (OpenSpec.upto blastNamesSpec)

/-- 'weepholelaw19.BlastFew', WHERE WHAT IT READS IS OF BULK AT MOST 1048576: true; the input reads as it did. -/
def blastFewUptoRow : OpenClaim := { program := "ytngimdbjcelkeaa", sum := "168aa0502ff74a024762bb481abcb600dea7625682c62a62011396fc01ddbbb1", func := "weephole/weepholelaw19.BlastFew", spec := "blastFew", unfollowed := true, recurses := true, plainKeys := false, apart := false, narrowed := true }
def BlastFewUptoSaid : Prop := blastFewUptoRow.holds Try.pinned (OpenSpec.upto blastFewSpec)

/-- 'weepholelaw19.BlastValues', WHERE WHAT IT READS IS OF BULK AT MOST 1048576: true; the input reads as it did. -/
def blastValuesUptoRow : OpenClaim := { program := "ytngimdbjcelkeaa", sum := "168aa0502ff74a024762bb481abcb600dea7625682c62a62011396fc01ddbbb1", func := "weephole/weepholelaw19.BlastValues", spec := "blastValues", unfollowed := true, recurses := true, plainKeys := false, apart := false, narrowed := true }
def BlastValuesUptoSaid : Prop := blastValuesUptoRow.holds Try.pinned (OpenSpec.upto blastValuesSpec)

/-- 'weepholelaw19.BlastLift', WHERE WHAT IT READS IS OF BULK AT MOST 1048576: true; the input reads as it did. -/
def blastLiftUptoRow : OpenClaim := { program := "ytngimdbjcelkeaa", sum := "168aa0502ff74a024762bb481abcb600dea7625682c62a62011396fc01ddbbb1", func := "weephole/weepholelaw19.BlastLift", spec := "blastLift", unfollowed := true, recurses := true, plainKeys := false, apart := false, narrowed := true }
def BlastLiftUptoSaid : Prop := blastLiftUptoRow.holds Try.pinned (OpenSpec.upto blastLiftSpec)

end Rows
end Go.Proofs.Ytngimdbjcelkeaa
