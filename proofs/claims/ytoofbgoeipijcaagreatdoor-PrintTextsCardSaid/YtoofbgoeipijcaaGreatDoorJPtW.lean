/-
 PrintTexts: print returns the text and the error that the reference returns, and does not change the program; for every program, its lists cut. Conditions: the laid variables of the card (tables of words and numbers) stand as the program text lays them.
-/
import Derived.Test.YtoofbgoeipijcaaGreatDoorVB1
import Derived.Test.YtoofbgoeipijcaaGreatDoorVB48
import Derived.Test.YtoofbgoeipijcaaGreatDoorTie
import Derived.Test.YtoofbgoeipijcaaGreatDoorCards
import Derived.SevenTiedAt
import Derived.HandedShaped
import Derived.ProofKit
namespace Go.Proofs.YtoofbgoeipijcaaGreatDoor.PrintTextsDone
set_option linter.unusedSimpArgs false
set_option linter.unusedVariables false
open Go.ChangeShapes Go.WideShapes Go.ChangeAt Go.RowKit Go.Joins
open Go.ChangeMaps (open_string shut_string)

theorem own:ownKnob Tryz.prog.godebug=none:=by kernel_rfl
theorem laidOut:laidOutB Tryz.prog=true:=by kernel_rfl

set_option maxRecDepth 100000 in
theorem lifted (os:Os) (started:os.Started) (H:Type) (enc:TypeId × Value→H) :
  ReturnsInHanded {} Tryz.checked os 3 .any (fun w args=>(Rows.printTextsSpec.pre enc Tryz.prog Tryz.f3 [] false w args∧laidMetH Tryz.prog laidPg w)∧sizedMet enc Tryz.prog Tryz.f3 (OpenSpec.ofChange Rows.printTextsSpec) false w args) (Rows.printTextsSpec.post enc Tryz.prog Tryz.f3 false true false false):=by
 refine handed_and_shaped (C:=Tryz.checked) (X:=fun w _=>laidMetH Tryz.prog laidPg w) (fun _ _ _ hh h=>h.of_heap hh) own started (by kernel_rfl) Tryz.func3
  (ChangeSpec.witness_shaped (enc:=enc) (C:=Tryz.checked) (os:=os) (X:=fun w _=>laidMetH Tryz.prog laidPg w) false (World.doorLaid Tryz.prog 400 os) #[.agg #[.int .i64 0,.slice none 0 0,.slice none 0 0,.slice none 0 0,.slice none 0 0]] 8 rfl (World.shaped_of_RefB (by kernel_rfl) (by kernel_rfl)) (by kernel_rfl) (by kernel_rfl) (by kernel_rfl) (door_met os _)) ?_
 intro W base args ds gs before hval0 hW hcnd hsz0 hL hsh _
 have hsz:(DataW.weightsEach Tryz.prog (Tryz.f3.params.toList++Rows.printTextsSpec.plain.varTypes Tryz.prog) (ds++gs)).all (·≤reachBytes)=true:=hsz0
 clear hsz0
 have hval:∀ (j:Nat) t v,Tryz.f3.params[j]?=some t→args[j]?=some v→Value.okWide Tryz.prog W .any base t v:=hval0
 have hW':=hW
 obtain ⟨p,q,hA0,hV,rfl,hfz,hnd⟩:=hW
 have hA:DataW.TrodAll enc Tryz.prog W 0 (fun _=>true) true Tryz.f3.params.toList args.toList ds p:=hA0
 rw [Tryz.params3] at hA hval hsz
 obtain ⟨v0,vs0,d0,ds0,p0,q0,hargs,rfl,rfl,h0,r0⟩:=trodAll_cons hA
 obtain ⟨rfl,rfl,rfl⟩:=trodAll_nil r0
 obtain rfl:args=#[v0]:=by cases args;simp_all
 obtain ⟨rfl,rfl⟩:=trodVars_none hV
 have k0:=h0
 have lt0:∀ x ∈ p0,x.block<W.heap.size:=by obtain ⟨m,hm⟩:=k0;exact DataW.trod_lt m _ _ _ hm
 have hwt0:∀ m ∈ d0.weights Tryz.prog 27,m≤reachBytes:=fun m hm=>by
  have:=List.all_eq_true.1 hsz m (DataW.weights_mem_each (j:=0) rfl rfl m hm)
  simpa using this
 obtain ⟨x0,va0,vb0,vc0,vd0,rfl,sl0,qi0⟩:=pg_open (hval 0 27 v0 rfl rfl) h0 hwt0
 clear hA0 hval0
 refine (printTexts_law x0 _ _ _ _ W sl0 qi0 (pre_of_laid hL)).mono fun e W' ⟨he,bel⟩=>?_
 subst he
 exact ⟨_,rfl,_,_,_,[],_,[],hW',trodAll_mk1 (shut_bool Tryz.underlying4 _),(trodAll_cons_mk (Below.trod laidOut (by kernel_rfl) (of_decide_eq_true (by kernel_rfl)) k0 bel lt0) trodAll_mk0),rfl,bel.frame _,fun h=>by cases h⟩

set_option maxRecDepth 100000
theorem q0:(Rows.printTextsRow.wf (OpenSpec.ofChange Rows.printTextsSpec))=true:=by kernel_rfl
theorem q1:(laidOutB Tryz.pinned.checked.prog)=true:=factLaid
theorem q2:(mapsRowed Tryz.pinned.checked.prog)=true:=factMaps
theorem q3:(Tryz.f3.params.all (Tryz.pinned.checked.prog.readableRec ·))=true:=by kernel_rfl
theorem q4:(namedTie Tryz.pinned.checked.prog Rows.printTextsRow.named Rows.printTextsSpec.vars)=true:=by kernel_rfl
theorem q5:((Rows.printTextsRow.stops == []))=true:=by kernel_rfl
theorem q6:((Tryz.pinned.checked.prog.stops == []))=true:=factStops
theorem q7:((Rows.printTextsRow.knobs == []))=true:=by kernel_rfl
theorem q8:((Tryz.pinned.checked.prog.stopKnobs == []))=true:=factKnobs
theorem q9:((Rows.printTextsRow.inPlace == Tryz.pinned.checked.prog.inPlace 3))=true:=by kernel_rfl
theorem q10:((Rows.printTextsRow.unfollowed == Tryz.pinned.checked.prog.unfollowed 3))=true:=by kernel_rfl
theorem q11:((Rows.printTextsRow.recurses == Tryz.pinned.checked.prog.recurses 3))=true:=by kernel_rfl
theorem q12:((Rows.printTextsRow.named == Tryz.pinned.checked.prog.varsNamed 3))=true:=by kernel_rfl
theorem q13:((Rows.printTextsRow.maps == (Tryz.f3.params.toList++Rows.printTextsSpec.plain.varTypes Tryz.pinned.checked.prog).any (Tryz.pinned.checked.prog.mapsRec ·)))=true:=by kernel_rfl
theorem q14:((Rows.printTextsRow.ifaces == (Tryz.f3.params.toList++Rows.printTextsSpec.plain.varTypes Tryz.pinned.checked.prog).any (Tryz.pinned.checked.prog.ifacesRec ·)))=true:=by kernel_rfl
theorem q15:((Rows.printTextsRow.mapsOut == Tryz.pinned.checked.prog.mapsAmong Tryz.f3.resultTypes.toList))=true:=by kernel_rfl
theorem q16:((Rows.printTextsRow.loops == (Tryz.f3.params.toList++Rows.printTextsSpec.plain.varTypes Tryz.pinned.checked.prog).any (Tryz.pinned.checked.prog.loopsFrom ·)))=true:=by kernel_rfl
theorem q17:((Rows.printTextsRow.wideKeys == (Tryz.f3.params.toList++Rows.printTextsSpec.plain.varTypes Tryz.pinned.checked.prog++Tryz.f3.resultTypes.toList).any (Tryz.pinned.checked.prog.wideKeysFrom ·)))=true:=by kernel_rfl
theorem q18:(Rows.printTextsSpec.vars.all (Tryz.pinned.checked.prog.varReadable ·))=true:=by kernel_rfl
theorem q19:(Tryz.f3.resultTypes.all (fun t=>Tryz.pinned.checked.prog.readableRec t && decide (t<Tryz.pinned.checked.prog.types.size)))=true:=by kernel_rfl
theorem q20:((Rows.printTextsRow.ifacesOut == Tryz.f3.resultTypes.toList.any (Tryz.pinned.checked.prog.ifacesRec ·)))=true:=by kernel_rfl
theorem q21:((Rows.printTextsRow.loopsOut == Tryz.f3.resultTypes.toList.any (Tryz.pinned.checked.prog.loopsFrom ·)))=true:=by kernel_rfl
theorem q22:((Rows.printTextsRow.plainKeys == Tryz.pinned.checked.prog.plainKeys))=true:=factKeys
theorem q23:(Rows.printTextsRow.shortTexts.isNone)=true:=by kernel_rfl
theorem q24:(Tryz.pinned.checked.prog.stopsHeard)=true:=factHeard
theorem q25:(Tryz.pinned.checked.prog.mayEnter)=true:=factA
theorem q26:((Rows.printTextsRow.lifted == Tryz.pinned.checked.prog.liftsFinal))=true:=factB
theorem q27:((Tryz.pinned.checked.prog.make == some Rows.printTextsRow.make))=true:=factC
theorem q28:((Rows.printTextsRow.kinds == (if Rows.printTextsRow.domain.isEmpty then [] else Tryz.f3.params.toList.map fun t=>match Tryz.pinned.checked.prog.underlying t with | some (.int k)=>some k | _=>none)))=true:=by kernel_rfl
theorem q29:((Rows.printTextsRow.pinned == Rows.printTextsRow.pinnedBy))=true:=by kernel_rfl
theorem q30:((Rows.printTextsRow.veiled == (Tryz.f3.params.toList++Rows.printTextsSpec.plain.varTypes Tryz.pinned.checked.prog++Tryz.f3.resultTypes.toList).any (Tryz.pinned.checked.prog.veiledRec ·)))=true:=by kernel_rfl
theorem q31:(Rows.printTextsRow.veiledFits Tryz.pinned.checked.prog Tryz.f3.params.toList (Tryz.f3.params.toList++Rows.printTextsSpec.plain.varTypes Tryz.pinned.checked.prog++Tryz.f3.resultTypes.toList))=true:=by kernel_rfl
theorem closed:joinedFacts Tryz.pinned.checked.prog 3 Tryz.f3 Rows.printTextsSpec Rows.printTextsRow=true:=by
 unfold joinedFacts
 exact andT (andT (andT (andT (andT (andT (andT (andT (andT (andT (andT (andT (andT (andT (andT (andT (andT (andT (andT (andT (andT (andT (andT (andT (andT (andT (andT (andT (andT (andT (andT q0 q1) q2) q3) q4) q5) q6) q7) q8) q9) q10) q11) q12) q13) q14) q15) q16) q17) q18) q19) q20) q21) q22) q23) q24) q25) q26) q27) q28) q29) q30) q31

theorem over:Rows.printTextsRow.holds Tryz.pinned (OpenSpec.ofChange Rows.printTextsSpec) :=
 OpenClaim.holds_of_wide 3 Tryz.f3 rfl rfl rfl rfl rfl rfl rfl ⟨rfl,rfl,rfl,rfl,rfl⟩ rfl rfl rfl rfl rfl (by kernel_rfl) Tryz.func3 closed
  (of_decide_eq_true (by kernel_rfl)) (by unfold Func.isWrapper;first | (rw [if_pos (by decide +kernel)];kernel_rfl) | (rw [if_neg (by decide +kernel)];exact ⟨rfl,rfl⟩))
  (fun os started H enc _=>lifted os started H enc)

end Go.Proofs.YtoofbgoeipijcaaGreatDoor.PrintTextsDone
namespace Go.Proofs.YtoofbgoeipijcaaGreatDoor
theorem printTexts_holds:Rows.PrintTextsCardSaid :=
 Claim7.holds_tied_plain_at .later [] [.data,.data,.data,.widerDeep,.data] true (true, "f20cdba79d233a477e21e4f76d7378bf139f310bfe57630b89c91826424f48aa") true
  PrintTextsDone.over (fun _ h=>by cases h) (by kernel_rfl) (fun _ h=>by cases h) printTexts_row_tie rfl ⟨rfl,rfl⟩ (by kernel_rfl) rfl
  (fun f fn hf hfn=>by
   obtain rfl:f=3:=(Option.some.inj ((show Tryz.prog.funcNamed "weephole/weepholelaw24.PrintTexts"=some 3 by kernel_rfl).symm.trans hf)).symm
   obtain rfl:fn=Tryz.f3:=(Option.some.inj (Tryz.func3.symm.trans hfn)).symm
   exact ⟨by kernel_rfl,fun j t ht=>by
    rw [Tryz.params3] at ht
    have hm:t ∈ [27]:=by simpa using Array.mem_of_getElem? ht
    have hall:([27].all fun u=>!Tryz.prog.wantsStandIn u)=true:=by kernel_rfl
    exact (show Tryz.prog.wantsStandIn t=false by simpa using List.all_eq_true.1 hall t hm)⟩)
  (by kernel_rfl)
#print axioms printTexts_holds
end Go.Proofs.YtoofbgoeipijcaaGreatDoor
