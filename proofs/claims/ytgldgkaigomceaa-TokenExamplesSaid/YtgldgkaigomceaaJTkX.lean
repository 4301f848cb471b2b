/-
  TokenExamples: the examples, each byte alone and between others, numbers next to 2^64, and texts of the greatest length, and longer. No conditions.
-/
import Derived.Test.YtgldgkaigomceaaOpen
import Derived.Test.YtgldgkaigomceaaTkX
import Derived.Test.YtgldgkaigomceaaFactA
import Derived.Test.YtgldgkaigomceaaFactB
import Derived.Test.YtgldgkaigomceaaFactC
import Derived.Test.YtgldgkaigomceaaFactD
import Derived.HandedShaped
import Derived.ProofKit
namespace Go.Proofs.Ytgldgkaigomceaa.TokenExamplesDone
set_option linter.unusedSimpArgs false
set_option linter.unusedVariables false
open Go.ChangeShapes Go.WideShapes Go.ChangeAt Go.RowKit Go.Joins
open Go.ChangeMaps (open_string shut_string)

theorem own : ownKnob Try.prog.godebug = none := by kernel_rfl
theorem laidOut : laidOutB Try.prog = true := by kernel_rfl

set_option maxRecDepth 100000 in
theorem lifted (os : Os) (started : os.Started) (H : Type) (enc : TypeId × Value → H) :
    ReturnsInHanded {} Try.checked os 5 .any (Rows.tokenExamplesSpec.pre6 enc Try.prog Try.f5 Rows.tokenExamplesRow.domain false) (Rows.tokenExamplesSpec.post enc Try.prog Try.f5 false true false false) := by
  refine returnsInHanded_of_change_shaped (C := Try.checked) own started (by kernel_rfl) Try.func5
    (ChangeSpec.witness6 (enc := enc) (C := Try.checked) false ⟨#[], #[], []⟩ 8 (by kernel_rfl) (by kernel_rfl) (by kernel_rfl) (by kernel_rfl)) ?_
  intro W base args ds gs before hval0 hW hcnd hsz0 hsh _
  obtain ⟨m, hm⟩ : ∃ m, W.cell? ⟨0, 0, none⟩ = some (.int .i64 m) := Try.laysM145.s1_3 W hsh
  have hsz : (DataW.weightsEach Try.prog (Try.f5.params.toList ++ Rows.tokenExamplesSpec.plain.varTypes Try.prog) (ds ++ gs)).all (· ≤ reachBytes) = true := hsz0
  clear hsz0
  have hval : ∀ (j : Nat) t v, Try.f5.params[j]? = some t → args[j]? = some v → Value.okWide Try.prog W .any base t v := hval0
  have hW' := hW
  obtain ⟨p, q, hA0, hV, rfl, hfz, hnd⟩ := hW
  have hA : DataW.TrodAll enc Try.prog W 0 (fun _ => true) true Try.f5.params.toList args.toList ds p := hA0
  rw [Try.params5] at hA hval hsz
  obtain ⟨hargs, rfl, rfl⟩ := trodAll_nil hA
  obtain rfl : args = #[] := by cases args; simp_all
  obtain ⟨rfl, rfl⟩ := trodVars_none hV
  clear hA0 hval0
  refine (examples_walk m W hm).mono fun e W' ⟨he, bel⟩ => ?_
  subst he
  exact ⟨_, rfl, _, _, _, [], _, [], hW', trodAll_mk1 (shut_bool Try.underlying4 _), trodAll_mk0, rfl, bel.frame _, fun h => by cases h⟩

set_option maxRecDepth 100000
theorem q0 : (Rows.tokenExamplesRow.wf (OpenSpec.ofChange Rows.tokenExamplesSpec)) = true := by kernel_rfl
theorem q1 : (laidOutB Try.pinned.checked.prog) = true := factLaid
theorem q2 : (mapsRowed Try.pinned.checked.prog) = true := factMaps
theorem q3 : (Try.f5.params.all (Try.pinned.checked.prog.readableRec ·)) = true := by kernel_rfl
theorem q4 : (namedTie Try.pinned.checked.prog Rows.tokenExamplesRow.named Rows.tokenExamplesSpec.vars) = true := by kernel_rfl
theorem q5 : ((Rows.tokenExamplesRow.stops == [])) = true := by kernel_rfl
theorem q6 : ((Try.pinned.checked.prog.stops == [])) = true := factStops
theorem q7 : ((Rows.tokenExamplesRow.knobs == [])) = true := by kernel_rfl
theorem q8 : ((Try.pinned.checked.prog.stopKnobs == [])) = true := factKnobs
theorem q9 : ((Rows.tokenExamplesRow.inPlace == Try.pinned.checked.prog.inPlace 5)) = true := by kernel_rfl
theorem q10 : ((Rows.tokenExamplesRow.unfollowed == Try.pinned.checked.prog.unfollowed 5)) = true := by kernel_rfl
theorem q11 : ((Rows.tokenExamplesRow.recurses == Try.pinned.checked.prog.recurses 5)) = true := by kernel_rfl
theorem q12 : ((Rows.tokenExamplesRow.named == Try.pinned.checked.prog.varsNamed 5)) = true := by kernel_rfl
theorem q13 : ((Rows.tokenExamplesRow.maps == (Try.f5.params.toList ++ Rows.tokenExamplesSpec.plain.varTypes Try.pinned.checked.prog).any (Try.pinned.checked.prog.mapsRec ·))) = true := by kernel_rfl
theorem q14 : ((Rows.tokenExamplesRow.ifaces == (Try.f5.params.toList ++ Rows.tokenExamplesSpec.plain.varTypes Try.pinned.checked.prog).any (Try.pinned.checked.prog.ifacesRec ·))) = true := by kernel_rfl
theorem q15 : ((Rows.tokenExamplesRow.mapsOut == Try.pinned.checked.prog.mapsAmong Try.f5.resultTypes.toList)) = true := by kernel_rfl
theorem q16 : ((Rows.tokenExamplesRow.loops == (Try.f5.params.toList ++ Rows.tokenExamplesSpec.plain.varTypes Try.pinned.checked.prog).any (Try.pinned.checked.prog.loopsFrom ·))) = true := by kernel_rfl
theorem q17 : ((Rows.tokenExamplesRow.wideKeys == (Try.f5.params.toList ++ Rows.tokenExamplesSpec.plain.varTypes Try.pinned.checked.prog ++ Try.f5.resultTypes.toList).any (Try.pinned.checked.prog.wideKeysFrom ·))) = true := by kernel_rfl
theorem q18 : (Rows.tokenExamplesSpec.vars.all (Try.pinned.checked.prog.varReadable ·)) = true := by kernel_rfl
theorem q19 : (Try.f5.resultTypes.all (fun t => Try.pinned.checked.prog.readableRec t && decide (t < Try.pinned.checked.prog.types.size))) = true := by kernel_rfl
theorem q20 : ((Rows.tokenExamplesRow.ifacesOut == Try.f5.resultTypes.toList.any (Try.pinned.checked.prog.ifacesRec ·))) = true := by kernel_rfl
theorem q21 : ((Rows.tokenExamplesRow.loopsOut == Try.f5.resultTypes.toList.any (Try.pinned.checked.prog.loopsFrom ·))) = true := by kernel_rfl
theorem q22 : ((Rows.tokenExamplesRow.plainKeys == Try.pinned.checked.prog.plainKeys)) = true := factKeys
theorem q23 : (Rows.tokenExamplesRow.shortTexts.isNone) = true := by kernel_rfl
theorem q24 : (Try.pinned.checked.prog.stopsHeard) = true := factHeard
theorem q25 : (Try.pinned.checked.prog.mayEnter) = true := factA
theorem q26 : ((Rows.tokenExamplesRow.lifted == Try.pinned.checked.prog.liftsFinal)) = true := factB
theorem q27 : ((Try.pinned.checked.prog.make == some Rows.tokenExamplesRow.make)) = true := factC
theorem q28 : ((Rows.tokenExamplesRow.kinds == (if Rows.tokenExamplesRow.domain.isEmpty then [] else Try.f5.params.toList.map fun t => match Try.pinned.checked.prog.underlying t with | some (.int k) => some k | _ => none))) = true := by kernel_rfl
theorem q29 : ((Rows.tokenExamplesRow.pinned == Rows.tokenExamplesRow.pinnedBy)) = true := by kernel_rfl
theorem q30 : ((Rows.tokenExamplesRow.veiled == (Try.f5.params.toList ++ Rows.tokenExamplesSpec.plain.varTypes Try.pinned.checked.prog ++ Try.f5.resultTypes.toList).any (Try.pinned.checked.prog.veiledRec ·))) = true := by kernel_rfl
theorem q31 : (Rows.tokenExamplesRow.veiledFits Try.pinned.checked.prog Try.f5.params.toList (Try.f5.params.toList ++ Rows.tokenExamplesSpec.plain.varTypes Try.pinned.checked.prog ++ Try.f5.resultTypes.toList)) = true := by kernel_rfl
theorem closed : joinedFacts Try.pinned.checked.prog 5 Try.f5 Rows.tokenExamplesSpec Rows.tokenExamplesRow = true := by
  unfold joinedFacts
  exact andT (andT (andT (andT (andT (andT (andT (andT (andT (andT (andT (andT (andT (andT (andT (andT (andT (andT (andT (andT (andT (andT (andT (andT (andT (andT (andT (andT (andT (andT (andT q0 q1) q2) q3) q4) q5) q6) q7) q8) q9) q10) q11) q12) q13) q14) q15) q16) q17) q18) q19) q20) q21) q22) q23) q24) q25) q26) q27) q28) q29) q30) q31

theorem over : Rows.tokenExamplesRow.holds Try.pinned (OpenSpec.ofChange Rows.tokenExamplesSpec) :=
  OpenClaim.holds_of_wide 5 Try.f5 rfl rfl rfl rfl rfl rfl rfl ⟨rfl, rfl, rfl, rfl, rfl⟩ rfl rfl rfl rfl rfl (by kernel_rfl) Try.func5 closed
    (of_decide_eq_true (by kernel_rfl)) (by unfold Func.isWrapper; first | (rw [if_pos (by decide +kernel)]; kernel_rfl) | (rw [if_neg (by decide +kernel)]; exact ⟨rfl, rfl⟩))
    (fun os started H enc _ => lifted os started H enc)

end Go.Proofs.Ytgldgkaigomceaa.TokenExamplesDone
namespace Go.Proofs.Ytgldgkaigomceaa
theorem tokenExamples_holds : Rows.TokenExamplesSaid := TokenExamplesDone.over
#print axioms tokenExamples_holds
end Go.Proofs.Ytgldgkaigomceaa
