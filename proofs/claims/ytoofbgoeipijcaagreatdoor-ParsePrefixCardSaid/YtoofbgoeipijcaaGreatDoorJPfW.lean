/-
 The law ParsePrefix of layer 23: what comes after a line that is refused does not matter, as long as it can stand in a text; for any two texts, cut to 1,500 and 300 bytes. Conditions: the listed variables hold what they are laid with, and the arguments are readable.
-/
import Derived.Test.YtoofbgoeipijcaaGreatDoorVB1
import Derived.Test.YtoofbgoeipijcaaGreatDoorVSPfW
import Derived.Test.YtoofbgoeipijcaaGreatDoorVB48
import Derived.Test.YtoofbgoeipijcaaGreatDoorTie
import Derived.Test.YtoofbgoeipijcaaGreatDoorCards
import Derived.SevenTiedAt
import Derived.Lay
import Derived.LaidOnce
import Derived.MakeChecks
import Derived.HandedShaped
import Derived.ProofKit
namespace Go.Proofs.YtoofbgoeipijcaaGreatDoor.ParsePrefixDone
set_option linter.unusedSimpArgs false
set_option linter.unusedVariables false
open Go.ChangeShapes Go.WideShapes Go.ChangeAt Go.RowKit Go.Joins
open Go.ChangeMaps (open_string shut_string)

theorem own:ownKnob Tryz.prog.godebug=none:=by kernel_rfl
theorem laidOut:laidOutB Tryz.prog=true:=by kernel_rfl

set_option maxRecDepth 100000 in
theorem lifted (os:Os) (started:os.Started) (H:Type) (enc:TypeId × Value→H) :
  ReturnsInHanded {} Tryz.checked os 9 .any (fun w args=>(Rows.parsePrefixSpec.pre enc Tryz.prog Tryz.f9 [] false w args∧laidMetH Tryz.prog laidPa4 w)∧sizedMet enc Tryz.prog Tryz.f9 (OpenSpec.ofChange Rows.parsePrefixSpec) false w args) (Rows.parsePrefixSpec.post enc Tryz.prog Tryz.f9 false true false false):=by
 refine handed_and_shaped (C:=Tryz.checked) (X:=fun w _=>laidMetH Tryz.prog laidPa4 w) (fun _ _ _ hh h=>h.of_heap hh) own started (by kernel_rfl) Tryz.func9
  (ChangeSpec.witness_shaped (enc:=enc) (C:=Tryz.checked) (os:=os) (X:=fun w _=>laidMetH Tryz.prog laidPa4 w) false (World.laidAll Tryz.prog os laidPa4) #[.string ⟨#[]⟩,.string ⟨#[]⟩] 8 (World.laidAll_os _ _ _) (World.shaped_of_ZipB (by kernel_rfl) (by kernel_rfl)) (by kernel_rfl) (by kernel_rfl) (by kernel_rfl) (by rw [MakeChecks.laidMetH_plain _ _ _ (by kernel_rfl)];exact laidMet_laidAll _ (by kernel_rfl) (by kernel_rfl))) ?_
 intro W base args ds gs before hval0 hW hcnd hsz0 hL hsh _
 obtain ⟨m,hm⟩:∃ m,W.cell? ⟨0,0,none⟩=some (.int .i64 m):=Tryz.laysM138.s1_3 W hsh
 have hsz:(DataW.weightsEach Tryz.prog (Tryz.f9.params.toList++Rows.parsePrefixSpec.plain.varTypes Tryz.prog) (ds++gs)).all (·≤reachBytes)=true:=hsz0
 clear hsz0
 have hval:∀ (j:Nat) t v,Tryz.f9.params[j]?=some t→args[j]?=some v→Value.okWide Tryz.prog W .any base t v:=hval0
 have hW':=hW
 obtain ⟨p,q,hA0,hV,rfl,hfz,hnd⟩:=hW
 have hA:DataW.TrodAll enc Tryz.prog W 0 (fun _=>true) true Tryz.f9.params.toList args.toList ds p:=hA0
 rw [Tryz.params9] at hA hval hsz
 obtain ⟨v0,vs0,d0,ds0,p0,q0,hargs,rfl,rfl,h0,r0⟩:=trodAll_cons hA
 obtain ⟨v1,vs1,d1,ds1,p1,q1,rfl,rfl,rfl,h1,r1⟩:=trodAll_cons r0
 obtain ⟨rfl,rfl,rfl⟩:=trodAll_nil r1
 obtain rfl:args=#[v0,v1]:=by cases args;simp_all
 obtain ⟨rfl,rfl⟩:=trodVars_none hV
 obtain ⟨s0,rfl,rfl,rfl,w0⟩:=open_string Tryz.underlying9 (hval 0 9 v0 rfl rfl) h0
 obtain ⟨s1,rfl,rfl,rfl,w1⟩:=open_string Tryz.underlying9 (hval 1 9 v1 rfl rfl) h1
 clear hA0 hval0
 refine (parsePrefix_any s0 s1 W w0 w1 (pre_of_laid4 hL) (⟨m,hm⟩)).mono fun e W' ⟨he,bel⟩=>?_
 subst he
 exact ⟨_,rfl,_,_,_,[],_,[],hW',trodAll_mk1 (shut_bool Tryz.underlying4 _),(trodAll_cons_mk (shut_string Tryz.underlying9 w0) (trodAll_cons_mk (shut_string Tryz.underlying9 w1) trodAll_mk0)),rfl,bel.frame _,fun h=>by cases h⟩

set_option maxRecDepth 100000
theorem q0:(Rows.parsePrefixRow.wf (OpenSpec.ofChange Rows.parsePrefixSpec))=true:=by kernel_rfl
theorem q1:(laidOutB Tryz.pinned.checked.prog)=true:=factLaid
theorem q2:(mapsRowed Tryz.pinned.checked.prog)=true:=factMaps
theorem q3:(Tryz.f9.params.all (Tryz.pinned.checked.prog.readableRec ·))=true:=by kernel_rfl
theorem q4:(namedTie Tryz.pinned.checked.prog Rows.parsePrefixRow.named Rows.parsePrefixSpec.vars)=true:=by kernel_rfl
theorem q5:((Rows.parsePrefixRow.stops == []))=true:=by kernel_rfl
theorem q6:((Tryz.pinned.checked.prog.stops == []))=true:=factStops
theorem q7:((Rows.parsePrefixRow.knobs == []))=true:=by kernel_rfl
theorem q8:((Tryz.pinned.checked.prog.stopKnobs == []))=true:=factKnobs
theorem q9:((Rows.parsePrefixRow.inPlace == Tryz.pinned.checked.prog.inPlace 9))=true:=by kernel_rfl
theorem q10:((Rows.parsePrefixRow.unfollowed == Tryz.pinned.checked.prog.unfollowed 9))=true:=by kernel_rfl
theorem q11:((Rows.parsePrefixRow.recurses == Tryz.pinned.checked.prog.recurses 9))=true:=by kernel_rfl
theorem q12:((Rows.parsePrefixRow.named == Tryz.pinned.checked.prog.varsNamed 9))=true:=by kernel_rfl
theorem q13:((Rows.parsePrefixRow.maps == (Tryz.f9.params.toList++Rows.parsePrefixSpec.plain.varTypes Tryz.pinned.checked.prog).any (Tryz.pinned.checked.prog.mapsRec ·)))=true:=by kernel_rfl
theorem q14:((Rows.parsePrefixRow.ifaces == (Tryz.f9.params.toList++Rows.parsePrefixSpec.plain.varTypes Tryz.pinned.checked.prog).any (Tryz.pinned.checked.prog.ifacesRec ·)))=true:=by kernel_rfl
theorem q15:((Rows.parsePrefixRow.mapsOut == Tryz.pinned.checked.prog.mapsAmong Tryz.f9.resultTypes.toList))=true:=by kernel_rfl
theorem q16:((Rows.parsePrefixRow.loops == (Tryz.f9.params.toList++Rows.parsePrefixSpec.plain.varTypes Tryz.pinned.checked.prog).any (Tryz.pinned.checked.prog.loopsFrom ·)))=true:=by kernel_rfl
theorem q17:((Rows.parsePrefixRow.wideKeys == (Tryz.f9.params.toList++Rows.parsePrefixSpec.plain.varTypes Tryz.pinned.checked.prog++Tryz.f9.resultTypes.toList).any (Tryz.pinned.checked.prog.wideKeysFrom ·)))=true:=by kernel_rfl
theorem q18:(Rows.parsePrefixSpec.vars.all (Tryz.pinned.checked.prog.varReadable ·))=true:=by kernel_rfl
theorem q19:(Tryz.f9.resultTypes.all (fun t=>Tryz.pinned.checked.prog.readableRec t && decide (t<Tryz.pinned.checked.prog.types.size)))=true:=by kernel_rfl
theorem q20:((Rows.parsePrefixRow.ifacesOut == Tryz.f9.resultTypes.toList.any (Tryz.pinned.checked.prog.ifacesRec ·)))=true:=by kernel_rfl
theorem q21:((Rows.parsePrefixRow.loopsOut == Tryz.f9.resultTypes.toList.any (Tryz.pinned.checked.prog.loopsFrom ·)))=true:=by kernel_rfl
theorem q22:((Rows.parsePrefixRow.plainKeys == Tryz.pinned.checked.prog.plainKeys))=true:=factKeys
theorem q23:(Rows.parsePrefixRow.shortTexts.isNone)=true:=by kernel_rfl
theorem q24:(Tryz.pinned.checked.prog.stopsHeard)=true:=factHeard
theorem q25:(Tryz.pinned.checked.prog.mayEnter)=true:=factA
theorem q26:((Rows.parsePrefixRow.lifted == Tryz.pinned.checked.prog.liftsFinal))=true:=factB
theorem q27:((Tryz.pinned.checked.prog.make == some Rows.parsePrefixRow.make))=true:=factC
theorem q28:((Rows.parsePrefixRow.kinds == (if Rows.parsePrefixRow.domain.isEmpty then [] else Tryz.f9.params.toList.map fun t=>match Tryz.pinned.checked.prog.underlying t with | some (.int k)=>some k | _=>none)))=true:=by kernel_rfl
theorem q29:((Rows.parsePrefixRow.pinned == Rows.parsePrefixRow.pinnedBy))=true:=by kernel_rfl
theorem q30:((Rows.parsePrefixRow.veiled == (Tryz.f9.params.toList++Rows.parsePrefixSpec.plain.varTypes Tryz.pinned.checked.prog++Tryz.f9.resultTypes.toList).any (Tryz.pinned.checked.prog.veiledRec ·)))=true:=by kernel_rfl
theorem q31:(Rows.parsePrefixRow.veiledFits Tryz.pinned.checked.prog Tryz.f9.params.toList (Tryz.f9.params.toList++Rows.parsePrefixSpec.plain.varTypes Tryz.pinned.checked.prog++Tryz.f9.resultTypes.toList))=true:=by kernel_rfl
theorem closed:joinedFacts Tryz.pinned.checked.prog 9 Tryz.f9 Rows.parsePrefixSpec Rows.parsePrefixRow=true:=by
 unfold joinedFacts
 exact andT (andT (andT (andT (andT (andT (andT (andT (andT (andT (andT (andT (andT (andT (andT (andT (andT (andT (andT (andT (andT (andT (andT (andT (andT (andT (andT (andT (andT (andT (andT q0 q1) q2) q3) q4) q5) q6) q7) q8) q9) q10) q11) q12) q13) q14) q15) q16) q17) q18) q19) q20) q21) q22) q23) q24) q25) q26) q27) q28) q29) q30) q31

theorem over:Rows.parsePrefixRow.holds Tryz.pinned (OpenSpec.ofChange Rows.parsePrefixSpec) :=
 OpenClaim.holds_of_wide 9 Tryz.f9 rfl rfl rfl rfl rfl rfl rfl ⟨rfl,rfl,rfl,rfl,rfl⟩ rfl rfl rfl rfl rfl (by kernel_rfl) Tryz.func9 closed
  (of_decide_eq_true (by kernel_rfl)) (by unfold Func.isWrapper;first | (rw [if_pos (by decide +kernel)];kernel_rfl) | (rw [if_neg (by decide +kernel)];exact ⟨rfl,rfl⟩))
  (fun os started H enc _=>lifted os started H enc)

end Go.Proofs.YtoofbgoeipijcaaGreatDoor.ParsePrefixDone
namespace Go.Proofs.YtoofbgoeipijcaaGreatDoor
theorem parsePrefix_holds:Rows.ParsePrefixCardSaid :=
 Claim7.holds_tied_plain_at .later [] [.data,.widerDeep,.data,.pinned] true (true, "f20cdba79d233a477e21e4f76d7378bf139f310bfe57630b89c91826424f48aa") true
  ParsePrefixDone.over (fun _ h=>by cases h) (by kernel_rfl) (fun _ h=>by cases h) parsePrefix_row_tie rfl ⟨rfl,rfl⟩ (by kernel_rfl) rfl
  (fun f fn hf hfn=>by
   obtain rfl:f=9:=(Option.some.inj ((show Tryz.prog.funcNamed "weephole/weepholelaw23.ParsePrefix"=some 9 by kernel_rfl).symm.trans hf)).symm
   obtain rfl:fn=Tryz.f9:=(Option.some.inj (Tryz.func9.symm.trans hfn)).symm
   exact ⟨by kernel_rfl,fun j t ht=>by
    rw [Tryz.params9] at ht
    have hm:t ∈ [9,9]:=by simpa using Array.mem_of_getElem? ht
    have hall:([9,9].all fun u=>!Tryz.prog.wantsStandIn u)=true:=by kernel_rfl
    exact (show Tryz.prog.wantsStandIn t=false by simpa using List.all_eq_true.1 hall t hm)⟩)
  (by kernel_rfl)
#print axioms parsePrefix_holds
end Go.Proofs.YtoofbgoeipijcaaGreatDoor
