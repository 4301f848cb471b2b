/-
  The law TokenJoins returns true for every input (any two strings): a text, a line feed and another text have the lines of the first one, and those of the second one further down. No conditions.
-/
import Derived.Test.YtgldgkaigomceaaOpen
import Derived.Test.YtgldgkaigomceaaTkJ
import Derived.Test.YtgldgkaigomceaaFactA
import Derived.Test.YtgldgkaigomceaaFactB
import Derived.Test.YtgldgkaigomceaaFactC
import Derived.Test.YtgldgkaigomceaaFactD
import Derived.HandedShaped
import Derived.ProofKit
namespace Go.Proofs.Ytgldgkaigomceaa.TokenJoinsDone
set_option linter.unusedSimpArgs false
set_option linter.unusedVariables false
open Go.ChangeShapes Go.WideShapes Go.ChangeAt Go.RowKit Go.Joins
open Go.ChangeMaps (open_string shut_string)

theorem own : ownKnob Try.prog.godebug = none := by kernel_rfl
theorem laidOut : laidOutB Try.prog = true := by kernel_rfl

set_option maxRecDepth 100000 in
theorem lifted (os : Os) (started : os.Started) (H : Type) (enc : TypeId × Value → H) :
    ReturnsInHanded {} Try.checked os 6 .any (Rows.tokenJoinsSpec.pre6 enc Try.prog Try.f6 Rows.tokenJoinsRow.domain false) (Rows.tokenJoinsSpec.post enc Try.prog Try.f6 false true false false) := by
  refine returnsInHanded_of_change_shaped (C := Try.checked) own started (by kernel_rfl) Try.func6
    (ChangeSpec.witness6 (enc := enc) (C := Try.checked) false ⟨#[], #[.string ⟨#[]⟩, .string ⟨#[]⟩], []⟩ 8 (by kernel_rfl) (by kernel_rfl) (by kernel_rfl) (by kernel_rfl)) ?_
  intro W base args ds gs before hval0 hW hcnd hsz0 hsh _
  obtain ⟨m, hm⟩ : ∃ m, W.cell? ⟨0, 0, none⟩ = some (.int .i64 m) := Try.laysM145.s1_3 W hsh
  have hsz : (DataW.weightsEach Try.prog (Try.f6.params.toList ++ Rows.tokenJoinsSpec.plain.varTypes Try.prog) (ds ++ gs)).all (· ≤ reachBytes) = true := hsz0
  clear hsz0
  have hval : ∀ (j : Nat) t v, Try.f6.params[j]? = some t → args[j]? = some v → Value.okWide Try.prog W .any base t v := hval0
  have hW' := hW
  obtain ⟨p, q, hA0, hV, rfl, hfz, hnd⟩ := hW
  have hA : DataW.TrodAll enc Try.prog W 0 (fun _ => true) true Try.f6.params.toList args.toList ds p := hA0
  rw [Try.params6] at hA hval hsz
  obtain ⟨v0, vs0, d0, ds0, p0, q0, hargs, rfl, rfl, h0, r0⟩ := trodAll_cons hA
  obtain ⟨v1, vs1, d1, ds1, p1, q1, rfl, rfl, rfl, h1, r1⟩ := trodAll_cons r0
  obtain ⟨rfl, rfl, rfl⟩ := trodAll_nil r1
  obtain rfl : args = #[v0, v1] := by cases args; simp_all
  obtain ⟨rfl, rfl⟩ := trodVars_none hV
  obtain ⟨s0, rfl, rfl, rfl, w0⟩ := open_string Try.underlying9 (hval 0 9 v0 rfl rfl) h0
  obtain ⟨s1, rfl, rfl, rfl, w1⟩ := open_string Try.underlying9 (hval 1 9 v1 rfl rfl) h1
  clear hA0 hval0
  refine (joins_walk s0 s1 m W w0 w1 hm).mono fun e W' ⟨he, bel⟩ => ?_
  subst he
  exact ⟨_, rfl, _, _, _, [], _, [], hW', trodAll_mk1 (shut_bool Try.underlying4 _), (trodAll_cons_mk (shut_string Try.underlying9 w0) (trodAll_cons_mk (shut_string Try.underlying9 w1) trodAll_mk0)), rfl, bel.frame _, fun h => by cases h⟩

set_option maxRecDepth 100000
theorem q0 : (Rows.tokenJoinsRow.wf (OpenSpec.ofChange Rows.tokenJoinsSpec)) = true := by kernel_rfl
theorem q1 : (laidOutB Try.pinned.checked.prog) = true := factLaid
theorem q2 : (mapsRowed Try.pinned.checked.prog) = true := factMaps
theorem q3 : (Try.f6.params.all (Try.pinned.checked.prog.readableRec ·)) = true := by kernel_rfl
theorem q4 : (namedTie Try.pinned.checked.prog Rows.tokenJoinsRow.named Rows.tokenJoinsSpec.vars) = true := by kernel_rfl
theorem q5 : ((Rows.tokenJoinsRow.stops == [])) = true := by kernel_rfl
theorem q6 : ((Try.pinned.checked.prog.stops == [])) = true := factStops
theorem q7 : ((Rows.tokenJoinsRow.knobs == [])) = true := by kernel_rfl
theorem q8 : ((Try.pinned.checked.prog.stopKnobs == [])) = true := factKnobs
theorem q9 : ((Rows.tokenJoinsRow.inPlace == Try.pinned.checked.prog.inPlace 6)) = true := by kernel_rfl
theorem q10 : ((Rows.tokenJoinsRow.unfollowed == Try.pinned.checked.prog.unfollowed 6)) = true := by kernel_rfl
theorem q11 : ((Rows.tokenJoinsRow.recurses == Try.pinned.checked.prog.recurses 6)) = true := by kernel_rfl
theorem q12 : ((Rows.tokenJoinsRow.named == Try.pinned.checked.prog.varsNamed 6)) = true := by kernel_rfl
theorem q13 : ((Rows.tokenJoinsRow.maps == (Try.f6.params.toList ++ Rows.tokenJoinsSpec.plain.varTypes Try.pinned.checked.prog).any (Try.pinned.checked.prog.mapsRec ·))) = true := by kernel_rfl
theorem q14 : ((Rows.tokenJoinsRow.ifaces == (Try.f6.params.toList ++ Rows.tokenJoinsSpec.plain.varTypes Try.pinned.checked.prog).any (Try.pinned.checked.prog.ifacesRec ·))) = true := by kernel_rfl
theorem q15 : ((Rows.tokenJoinsRow.mapsOut == Try.pinned.checked.prog.mapsAmong Try.f6.resultTypes.toList)) = true := by kernel_rfl
theorem q16 : ((Rows.tokenJoinsRow.loops == (Try.f6.params.toList ++ Rows.tokenJoinsSpec.plain.varTypes Try.pinned.checked.prog).any (Try.pinned.checked.prog.loopsFrom ·))) = true := by kernel_rfl
theorem q17 : ((Rows.tokenJoinsRow.wideKeys == (Try.f6.params.toList ++ Rows.tokenJoinsSpec.plain.varTypes Try.pinned.checked.prog ++ Try.f6.resultTypes.toList).any (Try.pinned.checked.prog.wideKeysFrom ·))) = true := by kernel_rfl
theorem q18 : (Rows.tokenJoinsSpec.vars.all (Try.pinned.checked.prog.varReadable ·)) = true := by kernel_rfl
theorem q19 : (Try.f6.resultTypes.all (fun t => Try.pinned.checked.prog.readableRec t && decide (t < Try.pinned.checked.prog.types.size))) = true := by kernel_rfl
theorem q20 : ((Rows.tokenJoinsRow.ifacesOut == Try.f6.resultTypes.toList.any (Try.pinned.checked.prog.ifacesRec ·))) = true := by kernel_rfl
theorem q21 : ((Rows.tokenJoinsRow.loopsOut == Try.f6.resultTypes.toList.any (Try.pinned.checked.prog.loopsFrom ·))) = true := by kernel_rfl
theorem q22 : ((Rows.tokenJoinsRow.plainKeys == Try.pinned.checked.prog.plainKeys)) = true := factKeys
theorem q23 : (Rows.tokenJoinsRow.shortTexts.isNone) = true := by kernel_rfl
theorem q24 : (Try.pinned.checked.prog.stopsHeard) = true := factHeard
theorem q25 : (Try.pinned.checked.prog.mayEnter) = true := factA
theorem q26 : ((Rows.tokenJoinsRow.lifted == Try.pinned.checked.prog.liftsFinal)) = true := factB
theorem q27 : ((Try.pinned.checked.prog.make == some Rows.tokenJoinsRow.make)) = true := factC
theorem q28 : ((Rows.tokenJoinsRow.kinds == (if Rows.tokenJoinsRow.domain.isEmpty then [] else Try.f6.params.toList.map fun t => match Try.pinned.checked.prog.underlying t with | some (.int k) => some k | _ => none))) = true := by kernel_rfl
theorem q29 : ((Rows.tokenJoinsRow.pinned == Rows.tokenJoinsRow.pinnedBy)) = true := by kernel_rfl
theorem q30 : ((Rows.tokenJoinsRow.veiled == (Try.f6.params.toList ++ Rows.tokenJoinsSpec.plain.varTypes Try.pinned.checked.prog ++ Try.f6.resultTypes.toList).any (Try.pinned.checked.prog.veiledRec ·))) = true := by kernel_rfl
theorem q31 : (Rows.tokenJoinsRow.veiledFits Try.pinned.checked.prog Try.f6.params.toList (Try.f6.params.toList ++ Rows.tokenJoinsSpec.plain.varTypes Try.pinned.checked.prog ++ Try.f6.resultTypes.toList)) = true := by kernel_rfl
theorem closed : joinedFacts Try.pinned.checked.prog 6 Try.f6 Rows.tokenJoinsSpec Rows.tokenJoinsRow = true := by
  unfold joinedFacts
  exact andT (andT (andT (andT (andT (andT (andT (andT (andT (andT (andT (andT (andT (andT (andT (andT (andT (andT (andT (andT (andT (andT (andT (andT (andT (andT (andT (andT (andT (andT (andT q0 q1) q2) q3) q4) q5) q6) q7) q8) q9) q10) q11) q12) q13) q14) q15) q16) q17) q18) q19) q20) q21) q22) q23) q24) q25) q26) q27) q28) q29) q30) q31

theorem over : Rows.tokenJoinsRow.holds Try.pinned (OpenSpec.ofChange Rows.tokenJoinsSpec) :=
  OpenClaim.holds_of_wide 6 Try.f6 rfl rfl rfl rfl rfl rfl rfl ⟨rfl, rfl, rfl, rfl, rfl⟩ rfl rfl rfl rfl rfl (by kernel_rfl) Try.func6 closed
    (of_decide_eq_true (by kernel_rfl)) (by unfold Func.isWrapper; first | (rw [if_pos (by decide +kernel)]; kernel_rfl) | (rw [if_neg (by decide +kernel)]; exact ⟨rfl, rfl⟩))
    (fun os started H enc _ => lifted os started H enc)

end Go.Proofs.Ytgldgkaigomceaa.TokenJoinsDone
namespace Go.Proofs.Ytgldgkaigomceaa
theorem tokenJoins_holds : Rows.TokenJoinsSaid := TokenJoinsDone.over
#print axioms tokenJoins_holds
end Go.Proofs.Ytgldgkaigomceaa
