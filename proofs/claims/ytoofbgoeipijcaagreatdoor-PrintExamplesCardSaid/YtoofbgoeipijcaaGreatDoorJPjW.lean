/-
 The law PrintExamples of layer 24: of the examples, each kind of instruction with any fields, each operator and great numbers, print answers as the reference, and the text of the greatest program is refused; there are no arguments. Conditions: the listed variables hold what they are laid with.
-/
import Derived.Test.YtoofbgoeipijcaaGreatDoorVB1
import Derived.Test.YtoofbgoeipijcaaGreatDoorVSPjW
import Derived.Test.YtoofbgoeipijcaaGreatDoorVB48
import Derived.Test.YtoofbgoeipijcaaGreatDoorTie
import Derived.Test.YtoofbgoeipijcaaGreatDoorCards
import Derived.SevenTiedAt
import Derived.HandedShaped
import Derived.ProofKit
namespace Go.Proofs.YtoofbgoeipijcaaGreatDoor.PrintExamplesDone
set_option linter.unusedSimpArgs false
set_option linter.unusedVariables false
open Go.ChangeShapes Go.WideShapes Go.ChangeAt Go.RowKit Go.Joins
open Go.ChangeMaps (open_string shut_string)

theorem own:ownKnob Tryz.prog.godebug=none:=by kernel_rfl
theorem laidOut:laidOutB Tryz.prog=true:=by kernel_rfl

set_option maxRecDepth 100000 in
theorem lifted (os:Os) (started:os.Started) (H:Type) (enc:TypeId × Value→H) :
  ReturnsInHanded {} Tryz.checked os 4 .any (fun w args=>(Rows.printExamplesSpec.pre enc Tryz.prog Tryz.f4 [] false w args∧laidMetH Tryz.prog laidPg w)∧sizedMet enc Tryz.prog Tryz.f4 (OpenSpec.ofChange Rows.printExamplesSpec) false w args) (Rows.printExamplesSpec.post enc Tryz.prog Tryz.f4 false true false false):=by
 refine handed_and_shaped (C:=Tryz.checked) (X:=fun w _=>laidMetH Tryz.prog laidPg w) (fun _ _ _ hh h=>h.of_heap hh) own started (by kernel_rfl) Tryz.func4
  (ChangeSpec.witness_shaped (enc:=enc) (C:=Tryz.checked) (os:=os) (X:=fun w _=>laidMetH Tryz.prog laidPg w) false (World.doorLaid Tryz.prog 400 os) #[] 8 rfl (World.shaped_of_RefB (by kernel_rfl) (by kernel_rfl)) (by kernel_rfl) (by kernel_rfl) (by kernel_rfl) (door_met os _)) ?_
 intro W base args ds gs before hval0 hW hcnd hsz0 hL hsh _
 have hsz:(DataW.weightsEach Tryz.prog (Tryz.f4.params.toList++Rows.printExamplesSpec.plain.varTypes Tryz.prog) (ds++gs)).all (·≤reachBytes)=true:=hsz0
 clear hsz0
 have hval:∀ (j:Nat) t v,Tryz.f4.params[j]?=some t→args[j]?=some v→Value.okWide Tryz.prog W .any base t v:=hval0
 have hW':=hW
 obtain ⟨p,q,hA0,hV,rfl,hfz,hnd⟩:=hW
 have hA:DataW.TrodAll enc Tryz.prog W 0 (fun _=>true) true Tryz.f4.params.toList args.toList ds p:=hA0
 rw [Tryz.params4] at hA hval hsz
 obtain ⟨hargs,rfl,rfl⟩:=trodAll_nil hA
 obtain rfl:args=#[]:=by cases args;simp_all
 obtain ⟨rfl,rfl⟩:=trodVars_none hV
 clear hA0 hval0
 refine (examples_any W (pre_of_laid hL)).mono fun e W' ⟨he,bel⟩=>?_
 subst he
 exact ⟨_,rfl,_,_,_,[],_,[],hW',trodAll_mk1 (shut_bool Tryz.underlying4 _),trodAll_mk0,rfl,bel.frame _,fun h=>by cases h⟩

set_option maxRecDepth 100000
theorem q0:(Rows.printExamplesRow.wf (OpenSpec.ofChange Rows.printExamplesSpec))=true:=by kernel_rfl
theorem q1:(laidOutB Tryz.pinned.checked.prog)=true:=factLaid
theorem q2:(mapsRowed Tryz.pinned.checked.prog)=true:=factMaps
theorem q3:(Tryz.f4.params.all (Tryz.pinned.checked.prog.readableRec ·))=true:=by kernel_rfl
theorem q4:(namedTie Tryz.pinned.checked.prog Rows.printExamplesRow.named Rows.printExamplesSpec.vars)=true:=by kernel_rfl
theorem q5:((Rows.printExamplesRow.stops == []))=true:=by kernel_rfl
theorem q6:((Tryz.pinned.checked.prog.stops == []))=true:=factStops
theorem q7:((Rows.printExamplesRow.knobs == []))=true:=by kernel_rfl
theorem q8:((Tryz.pinned.checked.prog.stopKnobs == []))=true:=factKnobs
theorem q9:((Rows.printExamplesRow.inPlace == Tryz.pinned.checked.prog.inPlace 4))=true:=by kernel_rfl
theorem q10:((Rows.printExamplesRow.unfollowed == Tryz.pinned.checked.prog.unfollowed 4))=true:=by kernel_rfl
theorem q11:((Rows.printExamplesRow.recurses == Tryz.pinned.checked.prog.recurses 4))=true:=by kernel_rfl
theorem q12:((Rows.printExamplesRow.named == Tryz.pinned.checked.prog.varsNamed 4))=true:=by kernel_rfl
theorem q13:((Rows.printExamplesRow.maps == (Tryz.f4.params.toList++Rows.printExamplesSpec.plain.varTypes Tryz.pinned.checked.prog).any (Tryz.pinned.checked.prog.mapsRec ·)))=true:=by kernel_rfl
theorem q14:((Rows.printExamplesRow.ifaces == (Tryz.f4.params.toList++Rows.printExamplesSpec.plain.varTypes Tryz.pinned.checked.prog).any (Tryz.pinned.checked.prog.ifacesRec ·)))=true:=by kernel_rfl
theorem q15:((Rows.printExamplesRow.mapsOut == Tryz.pinned.checked.prog.mapsAmong Tryz.f4.resultTypes.toList))=true:=by kernel_rfl
theorem q16:((Rows.printExamplesRow.loops == (Tryz.f4.params.toList++Rows.printExamplesSpec.plain.varTypes Tryz.pinned.checked.prog).any (Tryz.pinned.checked.prog.loopsFrom ·)))=true:=by kernel_rfl
theorem q17:((Rows.printExamplesRow.wideKeys == (Tryz.f4.params.toList++Rows.printExamplesSpec.plain.varTypes Tryz.pinned.checked.prog++Tryz.f4.resultTypes.toList).any (Tryz.pinned.checked.prog.wideKeysFrom ·)))=true:=by kernel_rfl
theorem q18:(Rows.printExamplesSpec.vars.all (Tryz.pinned.checked.prog.varReadable ·))=true:=by kernel_rfl
theorem q19:(Tryz.f4.resultTypes.all (fun t=>Tryz.pinned.checked.prog.readableRec t && decide (t<Tryz.pinned.checked.prog.types.size)))=true:=by kernel_rfl
theorem q20:((Rows.printExamplesRow.ifacesOut == Tryz.f4.resultTypes.toList.any (Tryz.pinned.checked.prog.ifacesRec ·)))=true:=by kernel_rfl
theorem q21:((Rows.printExamplesRow.loopsOut == Tryz.f4.resultTypes.toList.any (Tryz.pinned.checked.prog.loopsFrom ·)))=true:=by kernel_rfl
theorem q22:((Rows.printExamplesRow.plainKeys == Tryz.pinned.checked.prog.plainKeys))=true:=factKeys
theorem q23:(Rows.printExamplesRow.shortTexts.isNone)=true:=by kernel_rfl
theorem q24:(Tryz.pinned.checked.prog.stopsHeard)=true:=factHeard
theorem q25:(Tryz.pinned.checked.prog.mayEnter)=true:=factA
theorem q26:((Rows.printExamplesRow.lifted == Tryz.pinned.checked.prog.liftsFinal))=true:=factB
theorem q27:((Tryz.pinned.checked.prog.make == some Rows.printExamplesRow.make))=true:=factC
theorem q28:((Rows.printExamplesRow.kinds == (if Rows.printExamplesRow.domain.isEmpty then [] else Tryz.f4.params.toList.map fun t=>match Tryz.pinned.checked.prog.underlying t with | some (.int k)=>some k | _=>none)))=true:=by kernel_rfl
theorem q29:((Rows.printExamplesRow.pinned == Rows.printExamplesRow.pinnedBy))=true:=by kernel_rfl
theorem q30:((Rows.printExamplesRow.veiled == (Tryz.f4.params.toList++Rows.printExamplesSpec.plain.varTypes Tryz.pinned.checked.prog++Tryz.f4.resultTypes.toList).any (Tryz.pinned.checked.prog.veiledRec ·)))=true:=by kernel_rfl
theorem q31:(Rows.printExamplesRow.veiledFits Tryz.pinned.checked.prog Tryz.f4.params.toList (Tryz.f4.params.toList++Rows.printExamplesSpec.plain.varTypes Tryz.pinned.checked.prog++Tryz.f4.resultTypes.toList))=true:=by kernel_rfl
theorem closed:joinedFacts Tryz.pinned.checked.prog 4 Tryz.f4 Rows.printExamplesSpec Rows.printExamplesRow=true:=by
 unfold joinedFacts
 exact andT (andT (andT (andT (andT (andT (andT (andT (andT (andT (andT (andT (andT (andT (andT (andT (andT (andT (andT (andT (andT (andT (andT (andT (andT (andT (andT (andT (andT (andT (andT q0 q1) q2) q3) q4) q5) q6) q7) q8) q9) q10) q11) q12) q13) q14) q15) q16) q17) q18) q19) q20) q21) q22) q23) q24) q25) q26) q27) q28) q29) q30) q31

theorem over:Rows.printExamplesRow.holds Tryz.pinned (OpenSpec.ofChange Rows.printExamplesSpec) :=
 OpenClaim.holds_of_wide 4 Tryz.f4 rfl rfl rfl rfl rfl rfl rfl ⟨rfl,rfl,rfl,rfl,rfl⟩ rfl rfl rfl rfl rfl (by kernel_rfl) Tryz.func4 closed
  (of_decide_eq_true (by kernel_rfl)) (by unfold Func.isWrapper;first | (rw [if_pos (by decide +kernel)];kernel_rfl) | (rw [if_neg (by decide +kernel)];exact ⟨rfl,rfl⟩))
  (fun os started H enc _=>lifted os started H enc)

end Go.Proofs.YtoofbgoeipijcaaGreatDoor.PrintExamplesDone
namespace Go.Proofs.YtoofbgoeipijcaaGreatDoor
theorem printExamples_holds:Rows.PrintExamplesCardSaid :=
 Claim7.holds_tied_plain_at .later [] [.data,.data,.data,.widerDeep,.data] true (true, "f20cdba79d233a477e21e4f76d7378bf139f310bfe57630b89c91826424f48aa") true
  PrintExamplesDone.over (fun _ h=>by cases h) (by kernel_rfl) (fun _ h=>by cases h) printExamples_row_tie rfl ⟨rfl,rfl⟩ (by kernel_rfl) rfl
  (fun f fn hf hfn=>by
   obtain rfl:f=4:=(Option.some.inj ((show Tryz.prog.funcNamed "weephole/weepholelaw24.PrintExamples"=some 4 by kernel_rfl).symm.trans hf)).symm
   obtain rfl:fn=Tryz.f4:=(Option.some.inj (Tryz.func4.symm.trans hfn)).symm
   exact ⟨by kernel_rfl,fun j t ht=>by
    rw [Tryz.params4] at ht
    have hm:t ∈ []:=by simpa using Array.mem_of_getElem? ht
    have hall:([].all fun u=>!Tryz.prog.wantsStandIn u)=true:=by kernel_rfl
    exact (show Tryz.prog.wantsStandIn t=false by simpa using List.all_eq_true.1 hall t hm)⟩)
  (by kernel_rfl)
#print axioms printExamples_holds
end Go.Proofs.YtoofbgoeipijcaaGreatDoor
