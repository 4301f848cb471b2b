/-
 Check and Print answer as the reference, and equality is equality; conditions: those of the card.
-/
import Derived.Test.YtbijamcoibonkaaDoorCB1
import Derived.Test.YtbijamcoibonkaaDoorCSRnG
import Derived.Test.YtbijamcoibonkaaDoorCB47
import Derived.Test.YtbijamcoibonkaaDoorCB48
import Derived.Test.YtbijamcoibonkaaDoorTie
import Derived.Test.YtbijamcoibonkaaDoorCards
import Derived.SevenTiedAt
import Derived.HandedShaped
import Derived.ProofKit
namespace Go.Proofs.YtbijamcoibonkaaDoor.PolicyChecksDone
set_option linter.unusedSimpArgs false
set_option linter.unusedVariables false
open Go.ChangeShapes Go.WideShapes Go.ChangeAt Go.RowKit Go.Joins
open Go.ChangeMaps (open_string shut_string)

theorem own:ownKnob Tryd.prog.godebug=none:=by kernel_rfl
theorem laidOut:laidOutB Tryd.prog=true:=by kernel_rfl

set_option maxRecDepth 100000 in
theorem lifted (os:Os) (started:os.Started) (H:Type) (enc:TypeId × Value→H) :
  ReturnsInHanded {} Tryd.checked os 4 .any (fun w args=>(Rows.policyChecksSpec.pre enc Tryd.prog Tryd.f4 [] false w args∧laidMetH Tryd.prog laidPo w)∧sizedMet enc Tryd.prog Tryd.f4 (OpenSpec.ofChange Rows.policyChecksSpec) false w args) (Rows.policyChecksSpec.post enc Tryd.prog Tryd.f4 false true false false):=by
 refine handed_and_shaped (C:=Tryd.checked) (X:=fun w _=>laidMetH Tryd.prog laidPo w) (fun _ _ _ hh h=>h.of_heap hh) own started (by kernel_rfl) Tryd.func4
  (ChangeSpec.witness_shaped (enc:=enc) (C:=Tryd.checked) (os:=os) (X:=fun w _=>laidMetH Tryd.prog laidPo w) false (wPo os) #[.agg #[.slice none 0 0,.slice none 0 0,.slice none 0 0,.slice none 0 0,.bool false,.int .i64 0,.int .i64 0,.int .i64 0,.int .i64 0],.agg #[.slice none 0 0,.slice none 0 0,.slice none 0 0,.slice none 0 0,.bool false,.int .i64 0,.int .i64 0,.int .i64 0,.int .i64 0]] 8 (wPo_os os) (World.shaped_of_ZipB (by kernel_rfl) (by kernel_rfl)) (by kernel_rfl) (by kernel_rfl) (by kernel_rfl) (wPo_met os _)) ?_
 intro W base args ds gs before hval0 hW hcnd hsz0 hL hsh _
 obtain ⟨m,hm⟩:∃ m,W.cell? ⟨2,0,none⟩=some (.int .i64 m):=Tryd.laysM146.s1_3 W hsh
 have hsz:(DataW.weightsEach Tryd.prog (Tryd.f4.params.toList++Rows.policyChecksSpec.plain.varTypes Tryd.prog) (ds++gs)).all (·≤reachBytes)=true:=hsz0
 clear hsz0
 have hval:∀ (j:Nat) t v,Tryd.f4.params[j]?=some t→args[j]?=some v→Value.okWide Tryd.prog W .any base t v:=hval0
 have hW':=hW
 obtain ⟨p,q,hA0,hV,rfl,hfz,hnd⟩:=hW
 have hA:DataW.TrodAll enc Tryd.prog W 0 (fun _=>true) true Tryd.f4.params.toList args.toList ds p:=hA0
 rw [Tryd.params4] at hA hval hsz
 obtain ⟨v0,vs0,d0,ds0,p0,q0,hargs,rfl,rfl,h0,r0⟩:=trodAll_cons hA
 obtain ⟨v1,vs1,d1,ds1,p1,q1,rfl,rfl,rfl,h1,r1⟩:=trodAll_cons r0
 obtain ⟨rfl,rfl,rfl⟩:=trodAll_nil r1
 obtain rfl:args=#[v0,v1]:=by cases args;simp_all
 obtain ⟨rfl,rfl⟩:=trodVars_none hV
 have k0:=h0
 have lt0:∀ x ∈ p0,x.block<W.heap.size:=by obtain ⟨m,hm⟩:=k0;exact DataW.trod_lt m _ _ _ hm
 have hwt0:∀ m ∈ d0.weights Tryd.prog 26,m≤reachBytes:=fun m hm=>by
  have:=List.all_eq_true.1 hsz m (DataW.weights_mem_each (j:=0) rfl rfl m hm)
  simpa using this
 obtain ⟨x0,va0,vb0,vc0,vd0,rfl,sl0,qi0⟩:=po_open (hval 0 26 v0 rfl rfl) h0 hwt0
 have k1:=h1
 have lt1:∀ x ∈ p1,x.block<W.heap.size:=by obtain ⟨m,hm⟩:=k1;exact DataW.trod_lt m _ _ _ hm
 have hwt1:∀ m ∈ d1.weights Tryd.prog 26,m≤reachBytes:=fun m hm=>by
  have:=List.all_eq_true.1 hsz m (DataW.weights_mem_each (j:=1) rfl rfl m hm)
  simpa using this
 obtain ⟨x1,va1,vb1,vc1,vd1,rfl,sl1,qi1⟩:=po_open (hval 1 26 v1 rfl rfl) h1 hwt1
 clear hA0 hval0
 refine (policyChecks_any x0 _ _ _ _ x1 _ _ _ _ W sl0 qi0 sl1 qi1 (e28_of_laid hL ⟨m,hm⟩)).mono fun e W' ⟨he,bel⟩=>?_
 subst he
 exact ⟨_,rfl,_,_,_,[],_,[],hW',trodAll_mk1 (shut_bool Tryd.underlying4 _),(trodAll_cons_mk (Below.trod laidOut (by kernel_rfl) (of_decide_eq_true (by kernel_rfl)) k0 bel lt0) (trodAll_cons_mk (Below.trod laidOut (by kernel_rfl) (of_decide_eq_true (by kernel_rfl)) k1 bel lt1) trodAll_mk0)),rfl,bel.frame _,fun h=>by cases h⟩

set_option maxRecDepth 100000
theorem q0:(Rows.policyChecksRow.wf (OpenSpec.ofChange Rows.policyChecksSpec))=true:=by kernel_rfl
theorem q1:(laidOutB Tryd.pinned.checked.prog)=true:=factLaid
theorem q2:(mapsRowed Tryd.pinned.checked.prog)=true:=factMaps
theorem q3:(Tryd.f4.params.all (Tryd.pinned.checked.prog.readableRec ·))=true:=by kernel_rfl
theorem q4:(namedTie Tryd.pinned.checked.prog Rows.policyChecksRow.named Rows.policyChecksSpec.vars)=true:=by kernel_rfl
theorem q5:((Rows.policyChecksRow.stops == []))=true:=by kernel_rfl
theorem q6:((Tryd.pinned.checked.prog.stops == []))=true:=factStops
theorem q7:((Rows.policyChecksRow.knobs == []))=true:=by kernel_rfl
theorem q8:((Tryd.pinned.checked.prog.stopKnobs == []))=true:=factKnobs
theorem q9:((Rows.policyChecksRow.inPlace == Tryd.pinned.checked.prog.inPlace 4))=true:=by kernel_rfl
theorem q10:((Rows.policyChecksRow.unfollowed == Tryd.pinned.checked.prog.unfollowed 4))=true:=by kernel_rfl
theorem q11:((Rows.policyChecksRow.recurses == Tryd.pinned.checked.prog.recurses 4))=true:=by kernel_rfl
theorem q12:((Rows.policyChecksRow.named == Tryd.pinned.checked.prog.varsNamed 4))=true:=by kernel_rfl
theorem q13:((Rows.policyChecksRow.maps == (Tryd.f4.params.toList++Rows.policyChecksSpec.plain.varTypes Tryd.pinned.checked.prog).any (Tryd.pinned.checked.prog.mapsRec ·)))=true:=by kernel_rfl
theorem q14:((Rows.policyChecksRow.ifaces == (Tryd.f4.params.toList++Rows.policyChecksSpec.plain.varTypes Tryd.pinned.checked.prog).any (Tryd.pinned.checked.prog.ifacesRec ·)))=true:=by kernel_rfl
theorem q15:((Rows.policyChecksRow.mapsOut == Tryd.pinned.checked.prog.mapsAmong Tryd.f4.resultTypes.toList))=true:=by kernel_rfl
theorem q16:((Rows.policyChecksRow.loops == (Tryd.f4.params.toList++Rows.policyChecksSpec.plain.varTypes Tryd.pinned.checked.prog).any (Tryd.pinned.checked.prog.loopsFrom ·)))=true:=by kernel_rfl
theorem q17:((Rows.policyChecksRow.wideKeys == (Tryd.f4.params.toList++Rows.policyChecksSpec.plain.varTypes Tryd.pinned.checked.prog++Tryd.f4.resultTypes.toList).any (Tryd.pinned.checked.prog.wideKeysFrom ·)))=true:=by kernel_rfl
theorem q18:(Rows.policyChecksSpec.vars.all (Tryd.pinned.checked.prog.varReadable ·))=true:=by kernel_rfl
theorem q19:(Tryd.f4.resultTypes.all (fun t=>Tryd.pinned.checked.prog.readableRec t && decide (t<Tryd.pinned.checked.prog.types.size)))=true:=by kernel_rfl
theorem q20:((Rows.policyChecksRow.ifacesOut == Tryd.f4.resultTypes.toList.any (Tryd.pinned.checked.prog.ifacesRec ·)))=true:=by kernel_rfl
theorem q21:((Rows.policyChecksRow.loopsOut == Tryd.f4.resultTypes.toList.any (Tryd.pinned.checked.prog.loopsFrom ·)))=true:=by kernel_rfl
theorem q22:((Rows.policyChecksRow.plainKeys == Tryd.pinned.checked.prog.plainKeys))=true:=factKeys
theorem q23:(Rows.policyChecksRow.shortTexts.isNone)=true:=by kernel_rfl
theorem q24:(Tryd.pinned.checked.prog.stopsHeard)=true:=factHeard
theorem q25:(Tryd.pinned.checked.prog.mayEnter)=true:=factA
theorem q26:((Rows.policyChecksRow.lifted == Tryd.pinned.checked.prog.liftsFinal))=true:=factB
theorem q27:((Tryd.pinned.checked.prog.make == some Rows.policyChecksRow.make))=true:=factC
theorem q28:((Rows.policyChecksRow.kinds == (if Rows.policyChecksRow.domain.isEmpty then [] else Tryd.f4.params.toList.map fun t=>match Tryd.pinned.checked.prog.underlying t with | some (.int k)=>some k | _=>none)))=true:=by kernel_rfl
theorem q29:((Rows.policyChecksRow.pinned == Rows.policyChecksRow.pinnedBy))=true:=by kernel_rfl
theorem q30:((Rows.policyChecksRow.veiled == (Tryd.f4.params.toList++Rows.policyChecksSpec.plain.varTypes Tryd.pinned.checked.prog++Tryd.f4.resultTypes.toList).any (Tryd.pinned.checked.prog.veiledRec ·)))=true:=by kernel_rfl
theorem q31:(Rows.policyChecksRow.veiledFits Tryd.pinned.checked.prog Tryd.f4.params.toList (Tryd.f4.params.toList++Rows.policyChecksSpec.plain.varTypes Tryd.pinned.checked.prog++Tryd.f4.resultTypes.toList))=true:=by kernel_rfl
theorem closed:joinedFacts Tryd.pinned.checked.prog 4 Tryd.f4 Rows.policyChecksSpec Rows.policyChecksRow=true:=by
 unfold joinedFacts
 exact andT (andT (andT (andT (andT (andT (andT (andT (andT (andT (andT (andT (andT (andT (andT (andT (andT (andT (andT (andT (andT (andT (andT (andT (andT (andT (andT (andT (andT (andT (andT q0 q1) q2) q3) q4) q5) q6) q7) q8) q9) q10) q11) q12) q13) q14) q15) q16) q17) q18) q19) q20) q21) q22) q23) q24) q25) q26) q27) q28) q29) q30) q31

theorem over:Rows.policyChecksRow.holds Tryd.pinned (OpenSpec.ofChange Rows.policyChecksSpec) :=
 OpenClaim.holds_of_wide 4 Tryd.f4 rfl rfl rfl rfl rfl rfl rfl ⟨rfl,rfl,rfl,rfl,rfl⟩ rfl rfl rfl rfl rfl (by kernel_rfl) Tryd.func4 closed
  (of_decide_eq_true (by kernel_rfl)) (by unfold Func.isWrapper;first | (rw [if_pos (by decide +kernel)];kernel_rfl) | (rw [if_neg (by decide +kernel)];exact ⟨rfl,rfl⟩))
  (fun os started H enc _=>lifted os started H enc)

end Go.Proofs.YtbijamcoibonkaaDoor.PolicyChecksDone
namespace Go.Proofs.YtbijamcoibonkaaDoor
theorem policyChecks_holds:Rows.PolicyChecksCardSaid :=
 Claim7.holds_tied_plain_at .later [] [.data,.data,.data,.data,.funcs,.pinned] true (true, "5c7c8f4008da000cc924cdae3ce4adb9f96865a52078840e110cda609a6aecc7") false
  PolicyChecksDone.over (fun _ h=>by cases h) (by kernel_rfl) (fun _ h=>by cases h) policyChecks_row_tie rfl ⟨rfl,rfl⟩ (by kernel_rfl) rfl
  (fun f fn hf hfn=>by
   obtain rfl:f=4:=(Option.some.inj ((show Tryd.prog.funcNamed "weephole/weepholelaw28.PolicyChecks"=some 4 by kernel_rfl).symm.trans hf)).symm
   obtain rfl:fn=Tryd.f4:=(Option.some.inj (Tryd.func4.symm.trans hfn)).symm
   exact ⟨by kernel_rfl,fun j t ht=>by
    rw [Tryd.params4] at ht
    have hm:t ∈ [26,26]:=by simpa using Array.mem_of_getElem? ht
    have hall:([26,26].all fun u=>!Tryd.prog.wantsStandIn u)=true:=by kernel_rfl
    exact (show Tryd.prog.wantsStandIn t=false by simpa using List.all_eq_true.1 hall t hm)⟩)
  (by kernel_rfl)
#print axioms policyChecks_holds
end Go.Proofs.YtbijamcoibonkaaDoor
