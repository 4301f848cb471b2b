/-
 The law PrintBack of layer 24: every well-formed program is parsed from its text as it was, but for positions, and printed as the same text.
-/
import Derived.Test.YtoofbgoeipijcaaGreatDoorWB1
import Derived.Test.YtoofbgoeipijcaaGreatDoorWB48
import Derived.Test.YtoofbgoeipijcaaGreatDoorTie
import Derived.Test.YtoofbgoeipijcaaGreatDoorCards
import Derived.SevenTiedAt
import Derived.HandedShaped
import Derived.ProofKit
namespace Go.Proofs.YtoofbgoeipijcaaGreatDoor.PrintBackDone
set_option linter.all false
open Go.ChangeShapes Go.WideShapes Go.ChangeAt Go.RowKit Go.Joins
open Go.ChangeMaps (open_string shut_string)
open Rows (printBackRow printBackSpec)

theorem own:ownKnob Tryz.prog.godebug=none:=by kernel_rfl
theorem laidOut:laidOutB Tryz.prog=true:=by kernel_rfl

set_option maxRecDepth 100000 in
theorem lifted (os:Os) (started:os.Started) (H:Type) (enc:TypeId × Value→H) :
  ReturnsInHanded {} Tryz.checked os 10 .any (fun w args=>(Rows.printBackSpec.pre enc Tryz.prog Tryz.f10 [] false w args∧laidMetH Tryz.prog laidPg w)∧sizedMet enc Tryz.prog Tryz.f10 (OpenSpec.ofChange Rows.printBackSpec) false w args) (Rows.printBackSpec.post enc Tryz.prog Tryz.f10 false true false false):=by
 refine handed_and_shaped (C:=Tryz.checked) (X:=fun w _=>laidMetH Tryz.prog laidPg w) (fun _ _ _ hh h=>h.of_heap hh) own started (by kernel_rfl) Tryz.func10
  (ChangeSpec.witness_shaped (enc:=enc) (C:=Tryz.checked) (os:=os) (X:=fun w _=>laidMetH Tryz.prog laidPg w) false (World.doorLaid Tryz.prog 400 os) #[.agg #[.int .i64 0,.slice none 0 0,.slice none 0 0,.slice none 0 0,.slice none 0 0]] 8 rfl (World.shaped_of_RefB (by kernel_rfl) (by kernel_rfl)) (by kernel_rfl) (by kernel_rfl) (by kernel_rfl) (door_met os _)) ?_
 intro W base args ds gs before hval0 hW hcnd hsz0 hL hsh _
 obtain ⟨m,hm⟩:∃ m,W.cell? ⟨0,0,none⟩=some (.int .i64 m):=Tryz.laysM138.s1_3 W hsh
 have hsz:(DataW.weightsEach Tryz.prog (Tryz.f10.params.toList++Rows.printBackSpec.plain.varTypes Tryz.prog) (ds++gs)).all (·≤reachBytes)=true:=hsz0
 clear hsz0
 have hval:∀ (j:Nat) t v,Tryz.f10.params[j]?=some t→args[j]?=some v→Value.okWide Tryz.prog W .any base t v:=hval0
 have hW':=hW
 obtain ⟨p,q,hA0,hV,rfl,hfz,hnd⟩:=hW
 have hA:DataW.TrodAll enc Tryz.prog W 0 (fun _=>true) true Tryz.f10.params.toList args.toList ds p:=hA0
 rw [Tryz.params10] at hA hval hsz
 obtain ⟨v0,vs0,d0,ds0,p0,q0,hargs,rfl,rfl,h0,r0⟩:=trodAll_cons hA
 obtain ⟨rfl,rfl,rfl⟩:=trodAll_nil r0
 obtain rfl:args=#[v0]:=by cases args;simp_all
 obtain ⟨rfl,rfl⟩:=trodVars_none hV
 have k0:=h0
 have lt0:∀ x ∈ p0,x.block<W.heap.size:=by obtain ⟨m,hm⟩:=k0;exact DataW.trod_lt m _ _ _ hm
 have hwt0:∀ m ∈ d0.weights Tryz.prog 27,m≤reachBytes:=fun m hm=>by
  have:=List.all_eq_true.1 hsz m (DataW.weights_mem_each (j:=0) rfl rfl m hm)
  simpa using this
 obtain ⟨x0,va0,vb0,vc0,vd0,rfl,sl0,qi0⟩:=pg_open (hval 0 27 v0 rfl rfl) h0 hwt0
 clear hA0 hval0
 refine (printBack_law x0 _ _ _ _ W sl0 qi0 (pre_of_laid hL) (⟨m,hm⟩)).mono fun e W' ⟨he,bel⟩=>?_
 subst he
 exact ⟨_,rfl,_,_,_,[],_,[],hW',trodAll_mk1 (shut_bool Tryz.underlying4 _),(trodAll_cons_mk (Below.trod laidOut (by kernel_rfl) (of_decide_eq_true (by kernel_rfl)) k0 bel lt0) trodAll_mk0),rfl,bel.frame _,fun h=>by cases h⟩

set_option maxRecDepth 100000
theorem q0:(printBackRow.wf (OpenSpec.ofChange printBackSpec))=true:=by kernel_rfl
theorem q1:(laidOutB Tryz.pinned.checked.prog)=true:=factLaid
theorem q2:(mapsRowed Tryz.pinned.checked.prog)=true:=factMaps
theorem q3:(Tryz.f10.params.all (Tryz.pinned.checked.prog.readableRec ·))=true:=by kernel_rfl
theorem q4:(namedTie Tryz.pinned.checked.prog printBackRow.named printBackSpec.vars)=true:=by kernel_rfl
theorem q5:((printBackRow.stops == []))=true:=by kernel_rfl
theorem q6:((Tryz.pinned.checked.prog.stops == []))=true:=factStops
theorem q7:((printBackRow.knobs == []))=true:=by kernel_rfl
theorem q8:((Tryz.pinned.checked.prog.stopKnobs == []))=true:=factKnobs
theorem q9:((printBackRow.inPlace == Tryz.pinned.checked.prog.inPlace 10))=true:=by kernel_rfl
theorem q10:((printBackRow.unfollowed == Tryz.pinned.checked.prog.unfollowed 10))=true:=by kernel_rfl
theorem q11:((printBackRow.recurses == Tryz.pinned.checked.prog.recurses 10))=true:=by kernel_rfl
theorem q12:((printBackRow.named == Tryz.pinned.checked.prog.varsNamed 10))=true:=by kernel_rfl
theorem q13:((printBackRow.maps == (Tryz.f10.params.toList++printBackSpec.plain.varTypes Tryz.pinned.checked.prog).any (Tryz.pinned.checked.prog.mapsRec ·)))=true:=by kernel_rfl
theorem q14:((printBackRow.ifaces == (Tryz.f10.params.toList++printBackSpec.plain.varTypes Tryz.pinned.checked.prog).any (Tryz.pinned.checked.prog.ifacesRec ·)))=true:=by kernel_rfl
theorem q15:((printBackRow.mapsOut == Tryz.pinned.checked.prog.mapsAmong Tryz.f10.resultTypes.toList))=true:=by kernel_rfl
theorem q16:((printBackRow.loops == (Tryz.f10.params.toList++printBackSpec.plain.varTypes Tryz.pinned.checked.prog).any (Tryz.pinned.checked.prog.loopsFrom ·)))=true:=by kernel_rfl
theorem q17:((printBackRow.wideKeys == (Tryz.f10.params.toList++printBackSpec.plain.varTypes Tryz.pinned.checked.prog++Tryz.f10.resultTypes.toList).any (Tryz.pinned.checked.prog.wideKeysFrom ·)))=true:=by kernel_rfl
theorem q18:(printBackSpec.vars.all (Tryz.pinned.checked.prog.varReadable ·))=true:=by kernel_rfl
theorem q19:(Tryz.f10.resultTypes.all (fun t=>Tryz.pinned.checked.prog.readableRec t && decide (t<Tryz.pinned.checked.prog.types.size)))=true:=by kernel_rfl
theorem q20:((printBackRow.ifacesOut == Tryz.f10.resultTypes.toList.any (Tryz.pinned.checked.prog.ifacesRec ·)))=true:=by kernel_rfl
theorem q21:((printBackRow.loopsOut == Tryz.f10.resultTypes.toList.any (Tryz.pinned.checked.prog.loopsFrom ·)))=true:=by kernel_rfl
theorem q22:((printBackRow.plainKeys == Tryz.pinned.checked.prog.plainKeys))=true:=factKeys
theorem q23:(printBackRow.shortTexts.isNone)=true:=by kernel_rfl
theorem q24:(Tryz.pinned.checked.prog.stopsHeard)=true:=factHeard
theorem q25:(Tryz.pinned.checked.prog.mayEnter)=true:=factA
theorem q26:((printBackRow.lifted == Tryz.pinned.checked.prog.liftsFinal))=true:=factB
theorem q27:((Tryz.pinned.checked.prog.make == some printBackRow.make))=true:=factC
theorem q28:((printBackRow.kinds == (if printBackRow.domain.isEmpty then [] else Tryz.f10.params.toList.map fun t=>match Tryz.pinned.checked.prog.underlying t with | some (.int k)=>some k | _=>none)))=true:=by kernel_rfl
theorem q29:((printBackRow.pinned == printBackRow.pinnedBy))=true:=by kernel_rfl
theorem q30:((printBackRow.veiled == (Tryz.f10.params.toList++printBackSpec.plain.varTypes Tryz.pinned.checked.prog++Tryz.f10.resultTypes.toList).any (Tryz.pinned.checked.prog.veiledRec ·)))=true:=by kernel_rfl
theorem q31:(printBackRow.veiledFits Tryz.pinned.checked.prog Tryz.f10.params.toList (Tryz.f10.params.toList++printBackSpec.plain.varTypes Tryz.pinned.checked.prog++Tryz.f10.resultTypes.toList))=true:=by kernel_rfl
theorem closed:joinedFacts Tryz.pinned.checked.prog 10 Tryz.f10 Rows.printBackSpec Rows.printBackRow=true:=by
 unfold joinedFacts
 exact andT (andT (andT (andT (andT (andT (andT (andT (andT (andT (andT (andT (andT (andT (andT (andT (andT (andT (andT (andT (andT (andT (andT (andT (andT (andT (andT (andT (andT (andT (andT q0 q1) q2) q3) q4) q5) q6) q7) q8) q9) q10) q11) q12) q13) q14) q15) q16) q17) q18) q19) q20) q21) q22) q23) q24) q25) q26) q27) q28) q29) q30) q31

theorem over:Rows.printBackRow.holds Tryz.pinned (OpenSpec.ofChange Rows.printBackSpec) :=
 OpenClaim.holds_of_wide 10 Tryz.f10 rfl rfl rfl rfl rfl rfl rfl ⟨rfl,rfl,rfl,rfl,rfl⟩ rfl rfl rfl rfl rfl (by kernel_rfl) Tryz.func10 closed
  (of_decide_eq_true (by kernel_rfl)) (by unfold Func.isWrapper;first | (rw [if_pos (by decide +kernel)];kernel_rfl) | (rw [if_neg (by decide +kernel)];exact ⟨rfl,rfl⟩))
  (fun os started H enc _=>lifted os started H enc)

end Go.Proofs.YtoofbgoeipijcaaGreatDoor.PrintBackDone
namespace Go.Proofs.YtoofbgoeipijcaaGreatDoor
theorem printBack_holds:Rows.PrintBackCardSaid :=
 Claim7.holds_tied_plain_at .later [] [.data,.data,.data,.widerDeep,.data] true (true, "f20cdba79d233a477e21e4f76d7378bf139f310bfe57630b89c91826424f48aa") true
  PrintBackDone.over (fun _ h=>by cases h) (by kernel_rfl) (fun _ h=>by cases h) printBack_row_tie rfl ⟨rfl,rfl⟩ (by kernel_rfl) rfl
  (fun f fn hf hfn=>by
   obtain rfl:f=10:=(Option.some.inj ((show Tryz.prog.funcNamed "weephole/weepholelaw24.PrintBack"=some 10 by kernel_rfl).symm.trans hf)).symm
   obtain rfl:fn=Tryz.f10:=(Option.some.inj (Tryz.func10.symm.trans hfn)).symm
   exact ⟨by kernel_rfl,fun j t ht=>by
    rw [Tryz.params10] at ht
    have hm:t ∈ [27]:=by simpa using Array.mem_of_getElem? ht
    have hall:([27].all fun u=>!Tryz.prog.wantsStandIn u)=true:=by kernel_rfl
    exact (show Tryz.prog.wantsStandIn t=false by simpa using List.all_eq_true.1 hall t hm)⟩)
  (by kernel_rfl)
#print axioms printBack_holds
end Go.Proofs.YtoofbgoeipijcaaGreatDoor
