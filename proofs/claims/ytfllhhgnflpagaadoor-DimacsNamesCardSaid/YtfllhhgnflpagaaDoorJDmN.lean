/-
  DimacsNames: the examples of the chapter, and texts that are too long. The card takes no draws: the walk (XDmNw) is met at the laid world.
-/
import Derived.Test.YtfllhhgnflpagaaDoorOpen
import Derived.Test.YtfllhhgnflpagaaDoorDmNw
import Derived.Test.YtfllhhgnflpagaaDoorFactA
import Derived.Test.YtfllhhgnflpagaaDoorFactB
import Derived.Test.YtfllhhgnflpagaaDoorFactC
import Derived.Test.YtfllhhgnflpagaaDoorFactD
import Derived.Test.YtfllhhgnflpagaaDoorDmO
import Derived.Test.YtfllhhgnflpagaaDoorTie
import Derived.Test.YtfllhhgnflpagaaDoorCards
import Derived.SevenTiedAt
import Derived.Lay
import Derived.LaidOnce
import Derived.MakeChecks
import Derived.HandedShaped
import Derived.ProofKit
namespace Go.Proofs.YtfllhhgnflpagaaDoor.DimacsNamesDone
set_option linter.unusedSimpArgs false
set_option linter.unusedVariables false
open Go.ChangeShapes Go.WideShapes Go.ChangeAt Go.RowKit Go.Joins
open Go.ChangeMaps (open_string shut_string)

theorem own : ownKnob Tryd.prog.godebug = none := by kernel_rfl
theorem laidOut : laidOutB Tryd.prog = true := by kernel_rfl

set_option maxRecDepth 100000 in
theorem lifted (os : Os) (started : os.Started) (H : Type) (enc : TypeId × Value → H) :
    ReturnsInHanded {} Tryd.checked os 5 .any (fun w args => (Rows.dimacsNamesSpec.pre enc Tryd.prog Tryd.f5 [] false w args ∧ laidMetH Tryd.prog laidDm w) ∧ sizedMet enc Tryd.prog Tryd.f5 (OpenSpec.ofChange Rows.dimacsNamesSpec) false w args) (Rows.dimacsNamesSpec.post enc Tryd.prog Tryd.f5 false true false false) := by
  refine handed_and_shaped (C := Tryd.checked) (X := fun w _ => laidMetH Tryd.prog laidDm w) (fun _ _ _ hh h => h.of_heap hh) own started (by kernel_rfl) Tryd.func5
    (ChangeSpec.witness_shaped (enc := enc) (C := Tryd.checked) (os := os) (X := fun w _ => laidMetH Tryd.prog laidDm w) false (World.laidAll Tryd.prog os laidDm) #[] 8 (World.laidAll_os _ _ _) (World.shaped_of_ZipB (by kernel_rfl) (by kernel_rfl)) (by kernel_rfl) (by kernel_rfl) (by kernel_rfl) (by rw [MakeChecks.laidMetH_plain _ _ _ (by kernel_rfl)]; exact laidMet_laidAll _ (by kernel_rfl) (by kernel_rfl))) ?_
  intro W base args ds gs before hval0 hW hcnd hsz0 hL hsh _
  obtain ⟨m, hm⟩ : ∃ m, W.cell? ⟨3, 0, none⟩ = some (.int .i64 m) := Tryd.laysM145.s1_3 W hsh
  have hsz : (DataW.weightsEach Tryd.prog (Tryd.f5.params.toList ++ Rows.dimacsNamesSpec.plain.varTypes Tryd.prog) (ds ++ gs)).all (· ≤ reachBytes) = true := hsz0
  clear hsz0
  have hval : ∀ (j : Nat) t v, Tryd.f5.params[j]? = some t → args[j]? = some v → Value.okWide Tryd.prog W .any base t v := hval0
  have hW' := hW
  obtain ⟨p, q, hA0, hV, rfl, hfz, hnd⟩ := hW
  have hA : DataW.TrodAll enc Tryd.prog W 0 (fun _ => true) true Tryd.f5.params.toList args.toList ds p := hA0
  rw [Tryd.params5] at hA hval hsz
  obtain ⟨hargs, rfl, rfl⟩ := trodAll_nil hA
  obtain rfl : args = #[] := by cases args; simp_all
  obtain ⟨rfl, rfl⟩ := trodVars_none hV
  clear hA0 hval0
  refine (names_walk W (env_of_laid ⟨m, hm⟩ hL)).mono fun e W' ⟨he, bel⟩ => ?_
  subst he
  exact ⟨_, rfl, _, _, _, [], _, [], hW', trodAll_mk1 (shut_bool Tryd.underlying4 _), trodAll_mk0, rfl, bel.frame _, fun h => by cases h⟩

set_option maxRecDepth 100000
theorem q0 : (Rows.dimacsNamesRow.wf (OpenSpec.ofChange Rows.dimacsNamesSpec)) = true := by kernel_rfl
theorem q1 : (laidOutB Tryd.pinned.checked.prog) = true := factLaid
theorem q2 : (mapsRowed Tryd.pinned.checked.prog) = true := factMaps
theorem q3 : (Tryd.f5.params.all (Tryd.pinned.checked.prog.readableRec ·)) = true := by kernel_rfl
theorem q4 : (namedTie Tryd.pinned.checked.prog Rows.dimacsNamesRow.named Rows.dimacsNamesSpec.vars) = true := by kernel_rfl
theorem q5 : ((Rows.dimacsNamesRow.stops == [])) = true := by kernel_rfl
theorem q6 : ((Tryd.pinned.checked.prog.stops == [])) = true := factStops
theorem q7 : ((Rows.dimacsNamesRow.knobs == [])) = true := by kernel_rfl
theorem q8 : ((Tryd.pinned.checked.prog.stopKnobs == [])) = true := factKnobs
theorem q9 : ((Rows.dimacsNamesRow.inPlace == Tryd.pinned.checked.prog.inPlace 5)) = true := by kernel_rfl
theorem q10 : ((Rows.dimacsNamesRow.unfollowed == Tryd.pinned.checked.prog.unfollowed 5)) = true := by kernel_rfl
theorem q11 : ((Rows.dimacsNamesRow.recurses == Tryd.pinned.checked.prog.recurses 5)) = true := by kernel_rfl
theorem q12 : ((Rows.dimacsNamesRow.named == Tryd.pinned.checked.prog.varsNamed 5)) = true := by kernel_rfl
theorem q13 : ((Rows.dimacsNamesRow.maps == (Tryd.f5.params.toList ++ Rows.dimacsNamesSpec.plain.varTypes Tryd.pinned.checked.prog).any (Tryd.pinned.checked.prog.mapsRec ·))) = true := by kernel_rfl
theorem q14 : ((Rows.dimacsNamesRow.ifaces == (Tryd.f5.params.toList ++ Rows.dimacsNamesSpec.plain.varTypes Tryd.pinned.checked.prog).any (Tryd.pinned.checked.prog.ifacesRec ·))) = true := by kernel_rfl
theorem q15 : ((Rows.dimacsNamesRow.mapsOut == Tryd.pinned.checked.prog.mapsAmong Tryd.f5.resultTypes.toList)) = true := by kernel_rfl
theorem q16 : ((Rows.dimacsNamesRow.loops == (Tryd.f5.params.toList ++ Rows.dimacsNamesSpec.plain.varTypes Tryd.pinned.checked.prog).any (Tryd.pinned.checked.prog.loopsFrom ·))) = true := by kernel_rfl
theorem q17 : ((Rows.dimacsNamesRow.wideKeys == (Tryd.f5.params.toList ++ Rows.dimacsNamesSpec.plain.varTypes Tryd.pinned.checked.prog ++ Tryd.f5.resultTypes.toList).any (Tryd.pinned.checked.prog.wideKeysFrom ·))) = true := by kernel_rfl
theorem q18 : (Rows.dimacsNamesSpec.vars.all (Tryd.pinned.checked.prog.varReadable ·)) = true := by kernel_rfl
theorem q19 : (Tryd.f5.resultTypes.all (fun t => Tryd.pinned.checked.prog.readableRec t && decide (t < Tryd.pinned.checked.prog.types.size))) = true := by kernel_rfl
theorem q20 : ((Rows.dimacsNamesRow.ifacesOut == Tryd.f5.resultTypes.toList.any (Tryd.pinned.checked.prog.ifacesRec ·))) = true := by kernel_rfl
theorem q21 : ((Rows.dimacsNamesRow.loopsOut == Tryd.f5.resultTypes.toList.any (Tryd.pinned.checked.prog.loopsFrom ·))) = true := by kernel_rfl
theorem q22 : ((Rows.dimacsNamesRow.plainKeys == Tryd.pinned.checked.prog.plainKeys)) = true := factKeys
theorem q23 : (Rows.dimacsNamesRow.shortTexts.isNone) = true := by kernel_rfl
theorem q24 : (Tryd.pinned.checked.prog.stopsHeard) = true := factHeard
theorem q25 : (Tryd.pinned.checked.prog.mayEnter) = true := factA
theorem q26 : ((Rows.dimacsNamesRow.lifted == Tryd.pinned.checked.prog.liftsFinal)) = true := factB
theorem q27 : ((Tryd.pinned.checked.prog.make == some Rows.dimacsNamesRow.make)) = true := factC
theorem q28 : ((Rows.dimacsNamesRow.kinds == (if Rows.dimacsNamesRow.domain.isEmpty then [] else Tryd.f5.params.toList.map fun t => match Tryd.pinned.checked.prog.underlying t with | some (.int k) => some k | _ => none))) = true := by kernel_rfl
theorem q29 : ((Rows.dimacsNamesRow.pinned == Rows.dimacsNamesRow.pinnedBy)) = true := by kernel_rfl
theorem q30 : ((Rows.dimacsNamesRow.veiled == (Tryd.f5.params.toList ++ Rows.dimacsNamesSpec.plain.varTypes Tryd.pinned.checked.prog ++ Tryd.f5.resultTypes.toList).any (Tryd.pinned.checked.prog.veiledRec ·))) = true := by kernel_rfl
theorem q31 : (Rows.dimacsNamesRow.veiledFits Tryd.pinned.checked.prog Tryd.f5.params.toList (Tryd.f5.params.toList ++ Rows.dimacsNamesSpec.plain.varTypes Tryd.pinned.checked.prog ++ Tryd.f5.resultTypes.toList)) = true := by kernel_rfl
theorem closed : joinedFacts Tryd.pinned.checked.prog 5 Tryd.f5 Rows.dimacsNamesSpec Rows.dimacsNamesRow = true := by
  unfold joinedFacts
  exact andT (andT (andT (andT (andT (andT (andT (andT (andT (andT (andT (andT (andT (andT (andT (andT (andT (andT (andT (andT (andT (andT (andT (andT (andT (andT (andT (andT (andT (andT (andT q0 q1) q2) q3) q4) q5) q6) q7) q8) q9) q10) q11) q12) q13) q14) q15) q16) q17) q18) q19) q20) q21) q22) q23) q24) q25) q26) q27) q28) q29) q30) q31

theorem over : Rows.dimacsNamesRow.holds Tryd.pinned (OpenSpec.ofChange Rows.dimacsNamesSpec) :=
  OpenClaim.holds_of_wide 5 Tryd.f5 rfl rfl rfl rfl rfl rfl rfl ⟨rfl, rfl, rfl, rfl, rfl⟩ rfl rfl rfl rfl rfl (by kernel_rfl) Tryd.func5 closed
    (of_decide_eq_true (by kernel_rfl)) (by unfold Func.isWrapper; first | (rw [if_pos (by decide +kernel)]; kernel_rfl) | (rw [if_neg (by decide +kernel)]; exact ⟨rfl, rfl⟩))
    (fun os started H enc _ => lifted os started H enc)

end Go.Proofs.YtfllhhgnflpagaaDoor.DimacsNamesDone
namespace Go.Proofs.YtfllhhgnflpagaaDoor
theorem dimacsNames_holds : Rows.DimacsNamesCardSaid :=
  Claim7.holds_tied_plain_at .later [] [.data, .data, .data, .data, .sentinel, .sentinel, .pinned] true (true, "20805b62c6369e3b7d5a863a0cd516ea3f034df5fa4be31eafb3c7ec479c8a48") true
    DimacsNamesDone.over (fun _ h => by cases h) (by kernel_rfl) (fun _ h => by cases h) dimacsNames_row_tie rfl ⟨rfl, rfl⟩ (by kernel_rfl) rfl
    (fun f fn hf hfn => by
      obtain rfl : f = 5 := (Option.some.inj ((show Tryd.prog.funcNamed "weephole/weepholelaw03.DimacsNames" = some 5 by kernel_rfl).symm.trans hf)).symm
      obtain rfl : fn = Tryd.f5 := (Option.some.inj (Tryd.func5.symm.trans hfn)).symm
      exact ⟨by kernel_rfl, fun j t ht => by
        rw [Tryd.params5] at ht
        have hm : t ∈ [] := by simpa using Array.mem_of_getElem? ht
        have hall : ([].all fun u => !Tryd.prog.wantsStandIn u) = true := by kernel_rfl
        exact (show Tryd.prog.wantsStandIn t = false by simpa using List.all_eq_true.1 hall t hm)⟩)
    (by kernel_rfl)
#print axioms dimacsNames_holds
end Go.Proofs.YtfllhhgnflpagaaDoor
