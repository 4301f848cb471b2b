/-
  The law TokenLines returns true for every input (any string): the lines of words are those of the reference, and results are new memory. No conditions.
-/
import Derived.Test.YtgldgkaigomceaaOpen
import Derived.Test.YtgldgkaigomceaaTkLn
import Derived.Test.YtgldgkaigomceaaFactA
import Derived.Test.YtgldgkaigomceaaFactB
import Derived.Test.YtgldgkaigomceaaFactC
import Derived.Test.YtgldgkaigomceaaFactD
import Derived.HandedShaped
import Derived.ProofKit
namespace Go.Proofs.Ytgldgkaigomceaa.TokenLinesDone
set_option linter.unusedSimpArgs false
set_option linter.unusedVariables false
open Go.ChangeShapes Go.WideShapes Go.ChangeAt Go.RowKit Go.Joins
open Go.ChangeMaps (open_string shut_string)

theorem own : ownKnob Try.prog.godebug = none := by kernel_rfl
theorem laidOut : laidOutB Try.prog = true := by kernel_rfl

set_option maxRecDepth 100000 in
theorem lifted (os : Os) (started : os.Started) (H : Type) (enc : TypeId × Value → H) :
    ReturnsInHanded {} Try.checked os 3 .any (Rows.tokenLinesSpec.pre6 enc Try.prog Try.f3 Rows.tokenLinesRow.domain false) (Rows.tokenLinesSpec.post enc Try.prog Try.f3 false true false false) := by
  refine returnsInHanded_of_change_shaped (C := Try.checked) own started (by kernel_rfl) Try.func3
    (ChangeSpec.witness6 (enc := enc) (C := Try.checked) false ⟨#[], #[.string ⟨#[]⟩], []⟩ 8 (by kernel_rfl) (by kernel_rfl) (by kernel_rfl) (by kernel_rfl)) ?_
  intro W base args ds gs before hval0 hW hcnd hsz0 hsh _
  obtain ⟨m, hm⟩ : ∃ m, W.cell? ⟨0, 0, none⟩ = some (.int .i64 m) := Try.laysM145.s1_3 W hsh
  have hsz : (DataW.weightsEach Try.prog (Try.f3.params.toList ++ Rows.tokenLinesSpec.plain.varTypes Try.prog) (ds ++ gs)).all (· ≤ reachBytes) = true := hsz0
  clear hsz0
  have hval : ∀ (j : Nat) t v, Try.f3.params[j]? = some t → args[j]? = some v → Value.okWide Try.prog W .any base t v := hval0
  have hW' := hW
  obtain ⟨p, q, hA0, hV, rfl, hfz, hnd⟩ := hW
  have hA : DataW.TrodAll enc Try.prog W 0 (fun _ => true) true Try.f3.params.toList args.toList ds p := hA0
  rw [Try.params3] at hA hval hsz
  obtain ⟨v0, vs0, d0, ds0, p0, q0, hargs, rfl, rfl, h0, r0⟩ := trodAll_cons hA
  obtain ⟨rfl, rfl, rfl⟩ := trodAll_nil r0
  obtain rfl : args = #[v0] := by cases args; simp_all
  obtain ⟨rfl, rfl⟩ := trodVars_none hV
  obtain ⟨s0, rfl, rfl, rfl, w0⟩ := open_string Try.underlying9 (hval 0 9 v0 rfl rfl) h0
  clear hA0 hval0
  refine (tlines_walk s0 m W w0 hm).mono fun e W' ⟨he, bel⟩ => ?_
  subst he
  exact ⟨_, rfl, _, _, _, [], _, [], hW', trodAll_mk1 (shut_bool Try.underlying4 _), (trodAll_cons_mk (shut_string Try.underlying9 w0) trodAll_mk0), rfl, bel.frame _, fun h => by cases h⟩

set_option maxRecDepth 100000
theorem q0 : (Rows.tokenLinesRow.wf (OpenSpec.ofChange Rows.tokenLinesSpec)) = true := by kernel_rfl
theorem q1 : (laidOutB Try.pinned.checked.prog) = true := factLaid
theorem q2 : (mapsRowed Try.pinned.checked.prog) = true := factMaps
theorem q3 : (Try.f3.params.all (Try.pinned.checked.prog.readableRec ·)) = true := by kernel_rfl
theorem q4 : (namedTie Try.pinned.checked.prog Rows.tokenLinesRow.named Rows.tokenLinesSpec.vars) = true := by kernel_rfl
theorem q5 : ((Rows.tokenLinesRow.stops == [])) = true := by kernel_rfl
theorem q6 : ((Try.pinned.checked.prog.stops == [])) = true := factStops
theorem q7 : ((Rows.tokenLinesRow.knobs == [])) = true := by kernel_rfl
theorem q8 : ((Try.pinned.checked.prog.stopKnobs == [])) = true := factKnobs
theorem q9 : ((Rows.tokenLinesRow.inPlace == Try.pinned.checked.prog.inPlace 3)) = true := by kernel_rfl
theorem q10 : ((Rows.tokenLinesRow.unfollowed == Try.pinned.checked.prog.unfollowed 3)) = true := by kernel_rfl
theorem q11 : ((Rows.tokenLinesRow.recurses == Try.pinned.checked.prog.recurses 3)) = true := by kernel_rfl
theorem q12 : ((Rows.tokenLinesRow.named == Try.pinned.checked.prog.varsNamed 3)) = true := by kernel_rfl
theorem q13 : ((Rows.tokenLinesRow.maps == (Try.f3.params.toList ++ Rows.tokenLinesSpec.plain.varTypes Try.pinned.checked.prog).any (Try.pinned.checked.prog.mapsRec ·))) = true := by kernel_rfl
theorem q14 : ((Rows.tokenLinesRow.ifaces == (Try.f3.params.toList ++ Rows.tokenLinesSpec.plain.varTypes Try.pinned.checked.prog).any (Try.pinned.checked.prog.ifacesRec ·))) = true := by kernel_rfl
theorem q15 : ((Rows.tokenLinesRow.mapsOut == Try.pinned.checked.prog.mapsAmong Try.f3.resultTypes.toList)) = true := by kernel_rfl
theorem q16 : ((Rows.tokenLinesRow.loops == (Try.f3.params.toList ++ Rows.tokenLinesSpec.plain.varTypes Try.pinned.checked.prog).any (Try.pinned.checked.prog.loopsFrom ·))) = true := by kernel_rfl
theorem q17 : ((Rows.tokenLinesRow.wideKeys == (Try.f3.params.toList ++ Rows.tokenLinesSpec.plain.varTypes Try.pinned.checked.prog ++ Try.f3.resultTypes.toList).any (Try.pinned.checked.prog.wideKeysFrom ·))) = true := by kernel_rfl
theorem q18 : (Rows.tokenLinesSpec.vars.all (Try.pinned.checked.prog.varReadable ·)) = true := by kernel_rfl
theorem q19 : (Try.f3.resultTypes.all (fun t => Try.pinned.checked.prog.readableRec t && decide (t < Try.pinned.checked.prog.types.size))) = true := by kernel_rfl
theorem q20 : ((Rows.tokenLinesRow.ifacesOut == Try.f3.resultTypes.toList.any (Try.pinned.checked.prog.ifacesRec ·))) = true := by kernel_rfl
theorem q21 : ((Rows.tokenLinesRow.loopsOut == Try.f3.resultTypes.toList.any (Try.pinned.checked.prog.loopsFrom ·))) = true := by kernel_rfl
theorem q22 : ((Rows.tokenLinesRow.plainKeys == Try.pinned.checked.prog.plainKeys)) = true := factKeys
theorem q23 : (Rows.tokenLinesRow.shortTexts.isNone) = true := by kernel_rfl
theorem q24 : (Try.pinned.checked.prog.stopsHeard) = true := factHeard
theorem q25 : (Try.pinned.checked.prog.mayEnter) = true := factA
theorem q26 : ((Rows.tokenLinesRow.lifted == Try.pinned.checked.prog.liftsFinal)) = true := factB
theorem q27 : ((Try.pinned.checked.prog.make == some Rows.tokenLinesRow.make)) = true := factC
theorem q28 : ((Rows.tokenLinesRow.kinds == (if Rows.tokenLinesRow.domain.isEmpty then [] else Try.f3.params.toList.map fun t => match Try.pinned.checked.prog.underlying t with | some (.int k) => some k | _ => none))) = true := by kernel_rfl
theorem q29 : ((Rows.tokenLinesRow.pinned == Rows.tokenLinesRow.pinnedBy)) = true := by kernel_rfl
theorem q30 : ((Rows.tokenLinesRow.veiled == (Try.f3.params.toList ++ Rows.tokenLinesSpec.plain.varTypes Try.pinned.checked.prog ++ Try.f3.resultTypes.toList).any (Try.pinned.checked.prog.veiledRec ·))) = true := by kernel_rfl
theorem q31 : (Rows.tokenLinesRow.veiledFits Try.pinned.checked.prog Try.f3.params.toList (Try.f3.params.toList ++ Rows.tokenLinesSpec.plain.varTypes Try.pinned.checked.prog ++ Try.f3.resultTypes.toList)) = true := by kernel_rfl
theorem closed : joinedFacts Try.pinned.checked.prog 3 Try.f3 Rows.tokenLinesSpec Rows.tokenLinesRow = true := by
  unfold joinedFacts
  exact andT (andT (andT (andT (andT (andT (andT (andT (andT (andT (andT (andT (andT (andT (andT (andT (andT (andT (andT (andT (andT (andT (andT (andT (andT (andT (andT (andT (andT (andT (andT q0 q1) q2) q3) q4) q5) q6) q7) q8) q9) q10) q11) q12) q13) q14) q15) q16) q17) q18) q19) q20) q21) q22) q23) q24) q25) q26) q27) q28) q29) q30) q31

theorem over : Rows.tokenLinesRow.holds Try.pinned (OpenSpec.ofChange Rows.tokenLinesSpec) :=
  OpenClaim.holds_of_wide 3 Try.f3 rfl rfl rfl rfl rfl rfl rfl ⟨rfl, rfl, rfl, rfl, rfl⟩ rfl rfl rfl rfl rfl (by kernel_rfl) Try.func3 closed
    (of_decide_eq_true (by kernel_rfl)) (by unfold Func.isWrapper; first | (rw [if_pos (by decide +kernel)]; kernel_rfl) | (rw [if_neg (by decide +kernel)]; exact ⟨rfl, rfl⟩))
    (fun os started H enc _ => lifted os started H enc)

end Go.Proofs.Ytgldgkaigomceaa.TokenLinesDone
namespace Go.Proofs.Ytgldgkaigomceaa
theorem tokenLines_holds : Rows.TokenLinesSaid := TokenLinesDone.over
#print axioms tokenLines_holds
end Go.Proofs.Ytgldgkaigomceaa
