/-
 The law ParseSpread of layer 23: blanks, tabs, comments and lines without words change nothing of what is read but positions; for any text, cut to 1,500 bytes, and any noise. Conditions: the listed variables hold what they are laid with, and the arguments are readable.
-/
import Derived.Test.YtoofbgoeipijcaaGreatDoorVB1
import Derived.Test.YtoofbgoeipijcaaGreatDoorVB48
import Derived.Test.YtoofbgoeipijcaaGreatDoorTie
import Derived.Test.YtoofbgoeipijcaaGreatDoorCards
import Derived.SevenTiedAt
import Derived.Lay
import Derived.LaidOnce
import Derived.MakeChecks
import Derived.HandedShaped
import Derived.ProofKit
namespace Go.Proofs.YtoofbgoeipijcaaGreatDoor.ParseSpreadDone
set_option linter.unusedSimpArgs false
set_option linter.unusedVariables false
open Go.ChangeShapes Go.WideShapes Go.ChangeAt Go.RowKit Go.Joins
open Go.ChangeMaps (open_string shut_string)

theorem own:ownKnob Tryz.prog.godebug=none:=by kernel_rfl
theorem laidOut:laidOutB Tryz.prog=true:=by kernel_rfl

set_option maxRecDepth 100000 in
theorem lifted (os:Os) (started:os.Started) (H:Type) (enc:TypeId × Value→H) :
  ReturnsInHanded {} Tryz.checked os 7 .any (fun w args=>(Rows.parseSpreadSpec.pre enc Tryz.prog Tryz.f7 [] false w args∧laidMetH Tryz.prog laidPa4 w)∧sizedMet enc Tryz.prog Tryz.f7 (OpenSpec.ofChange Rows.parseSpreadSpec) false w args) (Rows.parseSpreadSpec.post enc Tryz.prog Tryz.f7 false true false false):=by
 refine handed_and_shaped (C:=Tryz.checked) (X:=fun w _=>laidMetH Tryz.prog laidPa4 w) (fun _ _ _ hh h=>h.of_heap hh) own started (by kernel_rfl) Tryz.func7
  (ChangeSpec.witness_shaped (enc:=enc) (C:=Tryz.checked) (os:=os) (X:=fun w _=>laidMetH Tryz.prog laidPa4 w) false (World.laidAll Tryz.prog os laidPa4) #[.string ⟨#[]⟩,.slice none 0 0] 8 (World.laidAll_os _ _ _) (World.shaped_of_ZipB (by kernel_rfl) (by kernel_rfl)) (by kernel_rfl) (by kernel_rfl) (by kernel_rfl) (by rw [MakeChecks.laidMetH_plain _ _ _ (by kernel_rfl)];exact laidMet_laidAll _ (by kernel_rfl) (by kernel_rfl))) ?_
 intro W base args ds gs before hval0 hW hcnd hsz0 hL hsh _
 obtain ⟨m,hm⟩:∃ m,W.cell? ⟨0,0,none⟩=some (.int .i64 m):=Tryz.laysM138.s1_3 W hsh
 have hsz:(DataW.weightsEach Tryz.prog (Tryz.f7.params.toList++Rows.parseSpreadSpec.plain.varTypes Tryz.prog) (ds++gs)).all (·≤reachBytes)=true:=hsz0
 clear hsz0
 have hval:∀ (j:Nat) t v,Tryz.f7.params[j]?=some t→args[j]?=some v→Value.okWide Tryz.prog W .any base t v:=hval0
 have hW':=hW
 obtain ⟨p,q,hA0,hV,rfl,hfz,hnd⟩:=hW
 have hA:DataW.TrodAll enc Tryz.prog W 0 (fun _=>true) true Tryz.f7.params.toList args.toList ds p:=hA0
 rw [Tryz.params7] at hA hval hsz
 obtain ⟨v0,vs0,d0,ds0,p0,q0,hargs,rfl,rfl,h0,r0⟩:=trodAll_cons hA
 obtain ⟨v1,vs1,d1,ds1,p1,q1,rfl,rfl,rfl,h1,r1⟩:=trodAll_cons r0
 obtain ⟨rfl,rfl,rfl⟩:=trodAll_nil r1
 obtain rfl:args=#[v0,v1]:=by cases args;simp_all
 obtain ⟨rfl,rfl⟩:=trodVars_none hV
 obtain ⟨s0,rfl,rfl,rfl,w0⟩:=open_string Tryz.underlying9 (hval 0 9 v0 rfl rfl) h0
 obtain ⟨ap1,ln1,cp1,rfl⟩:=okWide_slice Tryz.underlying51 (hval 1 51 v1 rfl rfl)
 have k1:=h1
 have lt1:∀ x ∈ p1,x.block<W.heap.size:=by obtain ⟨m,hm⟩:=k1;exact DataW.trod_lt m _ _ _ hm
 have hwt1:∀ m ∈ d1.weights Tryz.prog 51,m≤reachBytes:=fun m hm=>by
  have:=List.all_eq_true.1 hsz m (DataW.weights_mem_each (j:=1) rfl rfl m hm)
  simpa using this
 obtain ⟨bs1,ib1⟩:∃ bs,Bys (·<W.heap.size) W (.slice ap1 ln1 cp1) bs:=by
  obtain ⟨fuel,hf⟩:=h1
  exact u8s_open hf hwt1
 clear hA0 hval0
 refine (parseSpread_any s0 bs1 (.slice ap1 ln1 cp1) W w0 ib1 (pre_of_laid4 hL) (⟨m,hm⟩)).mono fun e W' ⟨he,bel⟩=>?_
 subst he
 exact ⟨_,rfl,_,_,_,[],_,[],hW',trodAll_mk1 (shut_bool Tryz.underlying4 _),(trodAll_cons_mk (shut_string Tryz.underlying9 w0) (trodAll_cons_mk (Below.trod laidOut (by kernel_rfl) (of_decide_eq_true (by kernel_rfl)) k1 bel lt1) trodAll_mk0)),rfl,bel.frame _,fun h=>by cases h⟩

set_option maxRecDepth 100000
theorem q0:(Rows.parseSpreadRow.wf (OpenSpec.ofChange Rows.parseSpreadSpec))=true:=by kernel_rfl
theorem q1:(laidOutB Tryz.pinned.checked.prog)=true:=factLaid
theorem q2:(mapsRowed Tryz.pinned.checked.prog)=true:=factMaps
theorem q3:(Tryz.f7.params.all (Tryz.pinned.checked.prog.readableRec ·))=true:=by kernel_rfl
theorem q4:(namedTie Tryz.pinned.checked.prog Rows.parseSpreadRow.named Rows.parseSpreadSpec.vars)=true:=by kernel_rfl
theorem q5:((Rows.parseSpreadRow.stops == []))=true:=by kernel_rfl
theorem q6:((Tryz.pinned.checked.prog.stops == []))=true:=factStops
theorem q7:((Rows.parseSpreadRow.knobs == []))=true:=by kernel_rfl
theorem q8:((Tryz.pinned.checked.prog.stopKnobs == []))=true:=factKnobs
theorem q9:((Rows.parseSpreadRow.inPlace == Tryz.pinned.checked.prog.inPlace 7))=true:=by kernel_rfl
theorem q10:((Rows.parseSpreadRow.unfollowed == Tryz.pinned.checked.prog.unfollowed 7))=true:=by kernel_rfl
theorem q11:((Rows.parseSpreadRow.recurses == Tryz.pinned.checked.prog.recurses 7))=true:=by kernel_rfl
theorem q12:((Rows.parseSpreadRow.named == Tryz.pinned.checked.prog.varsNamed 7))=true:=by kernel_rfl
theorem q13:((Rows.parseSpreadRow.maps == (Tryz.f7.params.toList++Rows.parseSpreadSpec.plain.varTypes Tryz.pinned.checked.prog).any (Tryz.pinned.checked.prog.mapsRec ·)))=true:=by kernel_rfl
theorem q14:((Rows.parseSpreadRow.ifaces == (Tryz.f7.params.toList++Rows.parseSpreadSpec.plain.varTypes Tryz.pinned.checked.prog).any (Tryz.pinned.checked.prog.ifacesRec ·)))=true:=by kernel_rfl
theorem q15:((Rows.parseSpreadRow.mapsOut == Tryz.pinned.checked.prog.mapsAmong Tryz.f7.resultTypes.toList))=true:=by kernel_rfl
theorem q16:((Rows.parseSpreadRow.loops == (Tryz.f7.params.toList++Rows.parseSpreadSpec.plain.varTypes Tryz.pinned.checked.prog).any (Tryz.pinned.checked.prog.loopsFrom ·)))=true:=by kernel_rfl
theorem q17:((Rows.parseSpreadRow.wideKeys == (Tryz.f7.params.toList++Rows.parseSpreadSpec.plain.varTypes Tryz.pinned.checked.prog++Tryz.f7.resultTypes.toList).any (Tryz.pinned.checked.prog.wideKeysFrom ·)))=true:=by kernel_rfl
theorem q18:(Rows.parseSpreadSpec.vars.all (Tryz.pinned.checked.prog.varReadable ·))=true:=by kernel_rfl
theorem q19:(Tryz.f7.resultTypes.all (fun t=>Tryz.pinned.checked.prog.readableRec t && decide (t<Tryz.pinned.checked.prog.types.size)))=true:=by kernel_rfl
theorem q20:((Rows.parseSpreadRow.ifacesOut == Tryz.f7.resultTypes.toList.any (Tryz.pinned.checked.prog.ifacesRec ·)))=true:=by kernel_rfl
theorem q21:((Rows.parseSpreadRow.loopsOut == Tryz.f7.resultTypes.toList.any (Tryz.pinned.checked.prog.loopsFrom ·)))=true:=by kernel_rfl
theorem q22:((Rows.parseSpreadRow.plainKeys == Tryz.pinned.checked.prog.plainKeys))=true:=factKeys
theorem q23:(Rows.parseSpreadRow.shortTexts.isNone)=true:=by kernel_rfl
theorem q24:(Tryz.pinned.checked.prog.stopsHeard)=true:=factHeard
theorem q25:(Tryz.pinned.checked.prog.mayEnter)=true:=factA
theorem q26:((Rows.parseSpreadRow.lifted == Tryz.pinned.checked.prog.liftsFinal))=true:=factB
theorem q27:((Tryz.pinned.checked.prog.make == some Rows.parseSpreadRow.make))=true:=factC
theorem q28:((Rows.parseSpreadRow.kinds == (if Rows.parseSpreadRow.domain.isEmpty then [] else Tryz.f7.params.toList.map fun t=>match Tryz.pinned.checked.prog.underlying t with | some (.int k)=>some k | _=>none)))=true:=by kernel_rfl
theorem q29:((Rows.parseSpreadRow.pinned == Rows.parseSpreadRow.pinnedBy))=true:=by kernel_rfl
theorem q30:((Rows.parseSpreadRow.veiled == (Tryz.f7.params.toList++Rows.parseSpreadSpec.plain.varTypes Tryz.pinned.checked.prog++Tryz.f7.resultTypes.toList).any (Tryz.pinned.checked.prog.veiledRec ·)))=true:=by kernel_rfl
theorem q31:(Rows.parseSpreadRow.veiledFits Tryz.pinned.checked.prog Tryz.f7.params.toList (Tryz.f7.params.toList++Rows.parseSpreadSpec.plain.varTypes Tryz.pinned.checked.prog++Tryz.f7.resultTypes.toList))=true:=by kernel_rfl
theorem closed:joinedFacts Tryz.pinned.checked.prog 7 Tryz.f7 Rows.parseSpreadSpec Rows.parseSpreadRow=true:=by
 unfold joinedFacts
 exact andT (andT (andT (andT (andT (andT (andT (andT (andT (andT (andT (andT (andT (andT (andT (andT (andT (andT (andT (andT (andT (andT (andT (andT (andT (andT (andT (andT (andT (andT (andT q0 q1) q2) q3) q4) q5) q6) q7) q8) q9) q10) q11) q12) q13) q14) q15) q16) q17) q18) q19) q20) q21) q22) q23) q24) q25) q26) q27) q28) q29) q30) q31

theorem over:Rows.parseSpreadRow.holds Tryz.pinned (OpenSpec.ofChange Rows.parseSpreadSpec) :=
 OpenClaim.holds_of_wide 7 Tryz.f7 rfl rfl rfl rfl rfl rfl rfl ⟨rfl,rfl,rfl,rfl,rfl⟩ rfl rfl rfl rfl rfl (by kernel_rfl) Tryz.func7 closed
  (of_decide_eq_true (by kernel_rfl)) (by unfold Func.isWrapper;first | (rw [if_pos (by decide +kernel)];kernel_rfl) | (rw [if_neg (by decide +kernel)];exact ⟨rfl,rfl⟩))
  (fun os started H enc _=>lifted os started H enc)

end Go.Proofs.YtoofbgoeipijcaaGreatDoor.ParseSpreadDone
namespace Go.Proofs.YtoofbgoeipijcaaGreatDoor
theorem parseSpread_holds:Rows.ParseSpreadCardSaid :=
 Claim7.holds_tied_plain_at .later [] [.data,.widerDeep,.data,.pinned] true (true, "f20cdba79d233a477e21e4f76d7378bf139f310bfe57630b89c91826424f48aa") true
  ParseSpreadDone.over (fun _ h=>by cases h) (by kernel_rfl) (fun _ h=>by cases h) parseSpread_row_tie rfl ⟨rfl,rfl⟩ (by kernel_rfl) rfl
  (fun f fn hf hfn=>by
   obtain rfl:f=7:=(Option.some.inj ((show Tryz.prog.funcNamed "weephole/weepholelaw23.ParseSpread"=some 7 by kernel_rfl).symm.trans hf)).symm
   obtain rfl:fn=Tryz.f7:=(Option.some.inj (Tryz.func7.symm.trans hfn)).symm
   exact ⟨by kernel_rfl,fun j t ht=>by
    rw [Tryz.params7] at ht
    have hm:t ∈ [9,51]:=by simpa using Array.mem_of_getElem? ht
    have hall:([9,51].all fun u=>!Tryz.prog.wantsStandIn u)=true:=by kernel_rfl
    exact (show Tryz.prog.wantsStandIn t=false by simpa using List.all_eq_true.1 hall t hm)⟩)
  (by kernel_rfl)
#print axioms parseSpread_holds
end Go.Proofs.YtoofbgoeipijcaaGreatDoor
