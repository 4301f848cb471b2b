/-
  The law ReportExamples, joined.
-/
import Derived.Test.YtehjfmbnebeioaaDoorOpen
import Derived.Test.YtehjfmbnebeioaaDoorReZ
import Derived.Test.YtehjfmbnebeioaaDoorFactA
import Derived.Test.YtehjfmbnebeioaaDoorFactB
import Derived.Test.YtehjfmbnebeioaaDoorFactC
import Derived.Test.YtehjfmbnebeioaaDoorFactD
import Derived.Test.YtehjfmbnebeioaaDoorRpO
import Derived.Test.YtehjfmbnebeioaaDoorTie
import Derived.Test.YtehjfmbnebeioaaDoorCards
import Derived.SevenTiedAt
import Derived.HandedShaped
import Derived.ProofKit
namespace Go.Proofs.YtehjfmbnebeioaaDoor.ReportExamplesDone
set_option linter.unusedSimpArgs false
set_option linter.unusedVariables false
open Go.ChangeShapes Go.WideShapes Go.ChangeAt Go.RowKit Go.Joins
open Go.ChangeMaps (open_string shut_string)

theorem own : ownKnob Tryd.prog.godebug = none := by kernel_rfl
theorem laidOut : laidOutB Tryd.prog = true := by kernel_rfl

set_option maxRecDepth 100000 in
theorem lifted (os : Os) (started : os.Started) (H : Type) (enc : TypeId × Value → H) :
    ReturnsInHanded {} Tryd.checked os 4 .any (fun w args => (Rows.reportExamplesSpec.pre enc Tryd.prog Tryd.f4 [] false w args ∧ laidMetH Tryd.prog laidRp w) ∧ sizedMet enc Tryd.prog Tryd.f4 (OpenSpec.ofChange Rows.reportExamplesSpec) false w args) (Rows.reportExamplesSpec.post enc Tryd.prog Tryd.f4 false true false false) := by
  refine handed_and_shaped (C := Tryd.checked) (X := fun w _ => laidMetH Tryd.prog laidRp w) (fun _ _ _ hh h => h.of_heap hh) own started (by kernel_rfl) Tryd.func4
    (ChangeSpec.witness_shaped (enc := enc) (C := Tryd.checked) (os := os) (X := fun w _ => laidMetH Tryd.prog laidRp w) false (World.doorLaid Tryd.prog 400 os) #[] 8 rfl (World.shaped_of_RefB (by kernel_rfl) (by kernel_rfl)) (by kernel_rfl) (by kernel_rfl) (by kernel_rfl) (door_met os _)) ?_
  intro W base args ds gs before hval0 hW hcnd hsz0 hL hsh _
  have hsz : (DataW.weightsEach Tryd.prog (Tryd.f4.params.toList ++ Rows.reportExamplesSpec.plain.varTypes Tryd.prog) (ds ++ gs)).all (· ≤ reachBytes) = true := hsz0
  clear hsz0
  have hval : ∀ (j : Nat) t v, Tryd.f4.params[j]? = some t → args[j]? = some v → Value.okWide Tryd.prog W .any base t v := hval0
  have hW' := hW
  obtain ⟨p, q, hA0, hV, rfl, hfz, hnd⟩ := hW
  have hA : DataW.TrodAll enc Tryd.prog W 0 (fun _ => true) true Tryd.f4.params.toList args.toList ds p := hA0
  rw [Tryd.params4] at hA hval hsz
  obtain ⟨hargs, rfl, rfl⟩ := trodAll_nil hA
  obtain rfl : args = #[] := by cases args; simp_all
  obtain ⟨rfl, rfl⟩ := trodVars_none hV
  clear hA0 hval0
  refine (repexamples_walk W (tabs_of_laid hL)).mono fun e W' ⟨he, bel⟩ => ?_
  subst he
  exact ⟨_, rfl, _, _, _, [], _, [], hW', trodAll_mk1 (shut_bool Tryd.underlying4 _), trodAll_mk0, rfl, bel.frame _, fun h => by cases h⟩

set_option maxRecDepth 100000
theorem q0 : (Rows.reportExamplesRow.wf (OpenSpec.ofChange Rows.reportExamplesSpec)) = true := by kernel_rfl
theorem q1 : (laidOutB Tryd.pinned.checked.prog) = true := factLaid
theorem q2 : (mapsRowed Tryd.pinned.checked.prog) = true := factMaps
theorem q3 : (Tryd.f4.params.all (Tryd.pinned.checked.prog.readableRec ·)) = true := by kernel_rfl
theorem q4 : (namedTie Tryd.pinned.checked.prog Rows.reportExamplesRow.named Rows.reportExamplesSpec.vars) = true := by kernel_rfl
theorem q5 : ((Rows.reportExamplesRow.stops == [])) = true := by kernel_rfl
theorem q6 : ((Tryd.pinned.checked.prog.stops == [])) = true := factStops
theorem q7 : ((Rows.reportExamplesRow.knobs == [])) = true := by kernel_rfl
theorem q8 : ((Tryd.pinned.checked.prog.stopKnobs == [])) = true := factKnobs
theorem q9 : ((Rows.reportExamplesRow.inPlace == Tryd.pinned.checked.prog.inPlace 4)) = true := by kernel_rfl
theorem q10 : ((Rows.reportExamplesRow.unfollowed == Tryd.pinned.checked.prog.unfollowed 4)) = true := by kernel_rfl
theorem q11 : ((Rows.reportExamplesRow.recurses == Tryd.pinned.checked.prog.recurses 4)) = true := by kernel_rfl
theorem q12 : ((Rows.reportExamplesRow.named == Tryd.pinned.checked.prog.varsNamed 4)) = true := by kernel_rfl
theorem q13 : ((Rows.reportExamplesRow.maps == (Tryd.f4.params.toList ++ Rows.reportExamplesSpec.plain.varTypes Tryd.pinned.checked.prog).any (Tryd.pinned.checked.prog.mapsRec ·))) = true := by kernel_rfl
theorem q14 : ((Rows.reportExamplesRow.ifaces == (Tryd.f4.params.toList ++ Rows.reportExamplesSpec.plain.varTypes Tryd.pinned.checked.prog).any (Tryd.pinned.checked.prog.ifacesRec ·))) = true := by kernel_rfl
theorem q15 : ((Rows.reportExamplesRow.mapsOut == Tryd.pinned.checked.prog.mapsAmong Tryd.f4.resultTypes.toList)) = true := by kernel_rfl
theorem q16 : ((Rows.reportExamplesRow.loops == (Tryd.f4.params.toList ++ Rows.reportExamplesSpec.plain.varTypes Tryd.pinned.checked.prog).any (Tryd.pinned.checked.prog.loopsFrom ·))) = true := by kernel_rfl
theorem q17 : ((Rows.reportExamplesRow.wideKeys == (Tryd.f4.params.toList ++ Rows.reportExamplesSpec.plain.varTypes Tryd.pinned.checked.prog ++ Tryd.f4.resultTypes.toList).any (Tryd.pinned.checked.prog.wideKeysFrom ·))) = true := by kernel_rfl
theorem q18 : (Rows.reportExamplesSpec.vars.all (Tryd.pinned.checked.prog.varReadable ·)) = true := by kernel_rfl
theorem q19 : (Tryd.f4.resultTypes.all (fun t => Tryd.pinned.checked.prog.readableRec t && decide (t < Tryd.pinned.checked.prog.types.size))) = true := by kernel_rfl
theorem q20 : ((Rows.reportExamplesRow.ifacesOut == Tryd.f4.resultTypes.toList.any (Tryd.pinned.checked.prog.ifacesRec ·))) = true := by kernel_rfl
theorem q21 : ((Rows.reportExamplesRow.loopsOut == Tryd.f4.resultTypes.toList.any (Tryd.pinned.checked.prog.loopsFrom ·))) = true := by kernel_rfl
theorem q22 : ((Rows.reportExamplesRow.plainKeys == Tryd.pinned.checked.prog.plainKeys)) = true := factKeys
theorem q23 : (Rows.reportExamplesRow.shortTexts.isNone) = true := by kernel_rfl
theorem q24 : (Tryd.pinned.checked.prog.stopsHeard) = true := factHeard
theorem q25 : (Tryd.pinned.checked.prog.mayEnter) = true := factA
theorem q26 : ((Rows.reportExamplesRow.lifted == Tryd.pinned.checked.prog.liftsFinal)) = true := factB
theorem q27 : ((Tryd.pinned.checked.prog.make == some Rows.reportExamplesRow.make)) = true := factC
theorem q28 : ((Rows.reportExamplesRow.kinds == (if Rows.reportExamplesRow.domain.isEmpty then [] else Tryd.f4.params.toList.map fun t => match Tryd.pinned.checked.prog.underlying t with | some (.int k) => some k | _ => none))) = true := by kernel_rfl
theorem q29 : ((Rows.reportExamplesRow.pinned == Rows.reportExamplesRow.pinnedBy)) = true := by kernel_rfl
theorem q30 : ((Rows.reportExamplesRow.veiled == (Tryd.f4.params.toList ++ Rows.reportExamplesSpec.plain.varTypes Tryd.pinned.checked.prog ++ Tryd.f4.resultTypes.toList).any (Tryd.pinned.checked.prog.veiledRec ·))) = true := by kernel_rfl
theorem q31 : (Rows.reportExamplesRow.veiledFits Tryd.pinned.checked.prog Tryd.f4.params.toList (Tryd.f4.params.toList ++ Rows.reportExamplesSpec.plain.varTypes Tryd.pinned.checked.prog ++ Tryd.f4.resultTypes.toList)) = true := by kernel_rfl
theorem closed : joinedFacts Tryd.pinned.checked.prog 4 Tryd.f4 Rows.reportExamplesSpec Rows.reportExamplesRow = true := by
  unfold joinedFacts
  exact andT (andT (andT (andT (andT (andT (andT (andT (andT (andT (andT (andT (andT (andT (andT (andT (andT (andT (andT (andT (andT (andT (andT (andT (andT (andT (andT (andT (andT (andT (andT q0 q1) q2) q3) q4) q5) q6) q7) q8) q9) q10) q11) q12) q13) q14) q15) q16) q17) q18) q19) q20) q21) q22) q23) q24) q25) q26) q27) q28) q29) q30) q31

theorem over : Rows.reportExamplesRow.holds Tryd.pinned (OpenSpec.ofChange Rows.reportExamplesSpec) :=
  OpenClaim.holds_of_wide 4 Tryd.f4 rfl rfl rfl rfl rfl rfl rfl ⟨rfl, rfl, rfl, rfl, rfl⟩ rfl rfl rfl rfl rfl (by kernel_rfl) Tryd.func4 closed
    (of_decide_eq_true (by kernel_rfl)) (by unfold Func.isWrapper; first | (rw [if_pos (by decide +kernel)]; kernel_rfl) | (rw [if_neg (by decide +kernel)]; exact ⟨rfl, rfl⟩))
    (fun os started H enc _ => lifted os started H enc)

end Go.Proofs.YtehjfmbnebeioaaDoor.ReportExamplesDone
namespace Go.Proofs.YtehjfmbnebeioaaDoor
theorem reportExamples_holds : Rows.ReportExamplesCardSaid :=
  Claim7.holds_tied_plain_at .later [] [.data, .data, .data, .data, .data] true (true, "f55161d59aa6bc129c9396966ccc5fabcdde53019cf078687214b21f5eaae114") false
    ReportExamplesDone.over (fun _ h => by cases h) (by kernel_rfl) (fun _ h => by cases h) reportExamples_row_tie rfl ⟨rfl, rfl⟩ (by kernel_rfl) rfl
    (fun f fn hf hfn => by
      obtain rfl : f = 4 := (Option.some.inj ((show Tryd.prog.funcNamed "weephole/weepholelaw39.ReportExamples" = some 4 by kernel_rfl).symm.trans hf)).symm
      obtain rfl : fn = Tryd.f4 := (Option.some.inj (Tryd.func4.symm.trans hfn)).symm
      exact ⟨by kernel_rfl, fun j t ht => by
        rw [Tryd.params4] at ht
        have hm : t ∈ [] := by simpa using Array.mem_of_getElem? ht
        have hall : ([].all fun u => !Tryd.prog.wantsStandIn u) = true := by kernel_rfl
        exact (show Tryd.prog.wantsStandIn t = false by simpa using List.all_eq_true.1 hall t hm)⟩)
    (by kernel_rfl)
#print axioms reportExamples_holds
end Go.Proofs.YtehjfmbnebeioaaDoor
