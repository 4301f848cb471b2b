/-
  DimacsValid: what is parsed is valid, and its text gives it again; an error has a line, but for ErrLong of the whole, and no formula. For every text (the listed variables of the library read as the row lists them).
-/
import Derived.Test.YtfllhhgnflpagaaDoorOpen
import Derived.Test.YtfllhhgnflpagaaDoorDmVw
import Derived.Test.YtfllhhgnflpagaaDoorFactA
import Derived.Test.YtfllhhgnflpagaaDoorFactB
import Derived.Test.YtfllhhgnflpagaaDoorFactC
import Derived.Test.YtfllhhgnflpagaaDoorFactD
import Derived.Test.YtfllhhgnflpagaaDoorDmO
import Derived.Test.YtfllhhgnflpagaaDoorTie
import Derived.Test.YtfllhhgnflpagaaDoorCards
import Derived.SevenTiedAt
import Derived.Lay
import Derived.LaidOnce
import Derived.MakeChecks
import Derived.HandedShaped
import Derived.ProofKit
namespace Go.Proofs.YtfllhhgnflpagaaDoor.DimacsValidDone
set_option linter.unusedSimpArgs false
set_option linter.unusedVariables false
open Go.ChangeShapes Go.WideShapes Go.ChangeAt Go.RowKit Go.Joins
open Go.ChangeMaps (open_string shut_string)

theorem own : ownKnob Tryd.prog.godebug = none := by kernel_rfl
theorem laidOut : laidOutB Tryd.prog = true := by kernel_rfl

set_option maxRecDepth 100000 in
theorem lifted (os : Os) (started : os.Started) (H : Type) (enc : TypeId × Value → H) :
    ReturnsInHanded {} Tryd.checked os 7 .any (fun w args => (Rows.dimacsValidSpec.pre enc Tryd.prog Tryd.f7 [] false w args ∧ laidMetH Tryd.prog laidDm w) ∧ sizedMet enc Tryd.prog Tryd.f7 (OpenSpec.ofChange Rows.dimacsValidSpec) false w args) (Rows.dimacsValidSpec.post enc Tryd.prog Tryd.f7 false true false false) := by
  refine handed_and_shaped (C := Tryd.checked) (X := fun w _ => laidMetH Tryd.prog laidDm w) (fun _ _ _ hh h => h.of_heap hh) own started (by kernel_rfl) Tryd.func7
    (ChangeSpec.witness_shaped (enc := enc) (C := Tryd.checked) (os := os) (X := fun w _ => laidMetH Tryd.prog laidDm w) false (World.laidAll Tryd.prog os laidDm) #[.string ⟨#[]⟩] 8 (World.laidAll_os _ _ _) (World.shaped_of_ZipB (by kernel_rfl) (by kernel_rfl)) (by kernel_rfl) (by kernel_rfl) (by kernel_rfl) (by rw [MakeChecks.laidMetH_plain _ _ _ (by kernel_rfl)]; exact laidMet_laidAll _ (by kernel_rfl) (by kernel_rfl))) ?_
  intro W base args ds gs before hval0 hW hcnd hsz0 hL hsh _
  obtain ⟨m, hm⟩ : ∃ m, W.cell? ⟨3, 0, none⟩ = some (.int .i64 m) := Tryd.laysM145.s1_3 W hsh
  have hsz : (DataW.weightsEach Tryd.prog (Tryd.f7.params.toList ++ Rows.dimacsValidSpec.plain.varTypes Tryd.prog) (ds ++ gs)).all (· ≤ reachBytes) = true := hsz0
  clear hsz0
  have hval : ∀ (j : Nat) t v, Tryd.f7.params[j]? = some t → args[j]? = some v → Value.okWide Tryd.prog W .any base t v := hval0
  have hW' := hW
  obtain ⟨p, q, hA0, hV, rfl, hfz, hnd⟩ := hW
  have hA : DataW.TrodAll enc Tryd.prog W 0 (fun _ => true) true Tryd.f7.params.toList args.toList ds p := hA0
  rw [Tryd.params7] at hA hval hsz
  obtain ⟨v0, vs0, d0, ds0, p0, q0, hargs, rfl, rfl, h0, r0⟩ := trodAll_cons hA
  obtain ⟨rfl, rfl, rfl⟩ := trodAll_nil r0
  obtain rfl : args = #[v0] := by cases args; simp_all
  obtain ⟨rfl, rfl⟩ := trodVars_none hV
  obtain ⟨s0, rfl, rfl, rfl, w0⟩ := open_string Tryd.underlying9 (hval 0 9 v0 rfl rfl) h0
  clear hA0 hval0
  refine (valid_walkS s0 W w0 (env_of_laid ⟨m, hm⟩ hL)).mono fun e W' ⟨he, bel⟩ => ?_
  subst he
  exact ⟨_, rfl, _, _, _, [], _, [], hW', trodAll_mk1 (shut_bool Tryd.underlying4 _), (trodAll_cons_mk (shut_string Tryd.underlying9 w0) trodAll_mk0), rfl, bel.frame _, fun h => by cases h⟩

set_option maxRecDepth 100000
theorem q0 : (Rows.dimacsValidRow.wf (OpenSpec.ofChange Rows.dimacsValidSpec)) = true := by kernel_rfl
theorem q1 : (laidOutB Tryd.pinned.checked.prog) = true := factLaid
theorem q2 : (mapsRowed Tryd.pinned.checked.prog) = true := factMaps
theorem q3 : (Tryd.f7.params.all (Tryd.pinned.checked.prog.readableRec ·)) = true := by kernel_rfl
theorem q4 : (namedTie Tryd.pinned.checked.prog Rows.dimacsValidRow.named Rows.dimacsValidSpec.vars) = true := by kernel_rfl
theorem q5 : ((Rows.dimacsValidRow.stops == [])) = true := by kernel_rfl
theorem q6 : ((Tryd.pinned.checked.prog.stops == [])) = true := factStops
theorem q7 : ((Rows.dimacsValidRow.knobs == [])) = true := by kernel_rfl
theorem q8 : ((Tryd.pinned.checked.prog.stopKnobs == [])) = true := factKnobs
theorem q9 : ((Rows.dimacsValidRow.inPlace == Tryd.pinned.checked.prog.inPlace 7)) = true := by kernel_rfl
theorem q10 : ((Rows.dimacsValidRow.unfollowed == Tryd.pinned.checked.prog.unfollowed 7)) = true := by kernel_rfl
theorem q11 : ((Rows.dimacsValidRow.recurses == Tryd.pinned.checked.prog.recurses 7)) = true := by kernel_rfl
theorem q12 : ((Rows.dimacsValidRow.named == Tryd.pinned.checked.prog.varsNamed 7)) = true := by kernel_rfl
theorem q13 : ((Rows.dimacsValidRow.maps == (Tryd.f7.params.toList ++ Rows.dimacsValidSpec.plain.varTypes Tryd.pinned.checked.prog).any (Tryd.pinned.checked.prog.mapsRec ·))) = true := by kernel_rfl
theorem q14 : ((Rows.dimacsValidRow.ifaces == (Tryd.f7.params.toList ++ Rows.dimacsValidSpec.plain.varTypes Tryd.pinned.checked.prog).any (Tryd.pinned.checked.prog.ifacesRec ·))) = true := by kernel_rfl
theorem q15 : ((Rows.dimacsValidRow.mapsOut == Tryd.pinned.checked.prog.mapsAmong Tryd.f7.resultTypes.toList)) = true := by kernel_rfl
theorem q16 : ((Rows.dimacsValidRow.loops == (Tryd.f7.params.toList ++ Rows.dimacsValidSpec.plain.varTypes Tryd.pinned.checked.prog).any (Tryd.pinned.checked.prog.loopsFrom ·))) = true := by kernel_rfl
theorem q17 : ((Rows.dimacsValidRow.wideKeys == (Tryd.f7.params.toList ++ Rows.dimacsValidSpec.plain.varTypes Tryd.pinned.checked.prog ++ Tryd.f7.resultTypes.toList).any (Tryd.pinned.checked.prog.wideKeysFrom ·))) = true := by kernel_rfl
theorem q18 : (Rows.dimacsValidSpec.vars.all (Tryd.pinned.checked.prog.varReadable ·)) = true := by kernel_rfl
theorem q19 : (Tryd.f7.resultTypes.all (fun t => Tryd.pinned.checked.prog.readableRec t && decide (t < Tryd.pinned.checked.prog.types.size))) = true := by kernel_rfl
theorem q20 : ((Rows.dimacsValidRow.ifacesOut == Tryd.f7.resultTypes.toList.any (Tryd.pinned.checked.prog.ifacesRec ·))) = true := by kernel_rfl
theorem q21 : ((Rows.dimacsValidRow.loopsOut == Tryd.f7.resultTypes.toList.any (Tryd.pinned.checked.prog.loopsFrom ·))) = true := by kernel_rfl
theorem q22 : ((Rows.dimacsValidRow.plainKeys == Tryd.pinned.checked.prog.plainKeys)) = true := factKeys
theorem q23 : (Rows.dimacsValidRow.shortTexts.isNone) = true := by kernel_rfl
theorem q24 : (Tryd.pinned.checked.prog.stopsHeard) = true := factHeard
theorem q25 : (Tryd.pinned.checked.prog.mayEnter) = true := factA
theorem q26 : ((Rows.dimacsValidRow.lifted == Tryd.pinned.checked.prog.liftsFinal)) = true := factB
theorem q27 : ((Tryd.pinned.checked.prog.make == some Rows.dimacsValidRow.make)) = true := factC
theorem q28 : ((Rows.dimacsValidRow.kinds == (if Rows.dimacsValidRow.domain.isEmpty then [] else Tryd.f7.params.toList.map fun t => match Tryd.pinned.checked.prog.underlying t with | some (.int k) => some k | _ => none))) = true := by kernel_rfl
theorem q29 : ((Rows.dimacsValidRow.pinned == Rows.dimacsValidRow.pinnedBy)) = true := by kernel_rfl
theorem q30 : ((Rows.dimacsValidRow.veiled == (Tryd.f7.params.toList ++ Rows.dimacsValidSpec.plain.varTypes Tryd.pinned.checked.prog ++ Tryd.f7.resultTypes.toList).any (Tryd.pinned.checked.prog.veiledRec ·))) = true := by kernel_rfl
theorem q31 : (Rows.dimacsValidRow.veiledFits Tryd.pinned.checked.prog Tryd.f7.params.toList (Tryd.f7.params.toList ++ Rows.dimacsValidSpec.plain.varTypes Tryd.pinned.checked.prog ++ Tryd.f7.resultTypes.toList)) = true := by kernel_rfl
theorem closed : joinedFacts Tryd.pinned.checked.prog 7 Tryd.f7 Rows.dimacsValidSpec Rows.dimacsValidRow = true := by
  unfold joinedFacts
  exact andT (andT (andT (andT (andT (andT (andT (andT (andT (andT (andT (andT (andT (andT (andT (andT (andT (andT (andT (andT (andT (andT (andT (andT (andT (andT (andT (andT (andT (andT (andT q0 q1) q2) q3) q4) q5) q6) q7) q8) q9) q10) q11) q12) q13) q14) q15) q16) q17) q18) q19) q20) q21) q22) q23) q24) q25) q26) q27) q28) q29) q30) q31

theorem over : Rows.dimacsValidRow.holds Tryd.pinned (OpenSpec.ofChange Rows.dimacsValidSpec) :=
  OpenClaim.holds_of_wide 7 Tryd.f7 rfl rfl rfl rfl rfl rfl rfl ⟨rfl, rfl, rfl, rfl, rfl⟩ rfl rfl rfl rfl rfl (by kernel_rfl) Tryd.func7 closed
    (of_decide_eq_true (by kernel_rfl)) (by unfold Func.isWrapper; first | (rw [if_pos (by decide +kernel)]; kernel_rfl) | (rw [if_neg (by decide +kernel)]; exact ⟨rfl, rfl⟩))
    (fun os started H enc _ => lifted os started H enc)

end Go.Proofs.YtfllhhgnflpagaaDoor.DimacsValidDone
namespace Go.Proofs.YtfllhhgnflpagaaDoor
theorem dimacsValid_holds : Rows.DimacsValidCardSaid :=
  Claim7.holds_tied_plain_at .later [] [.data, .data, .data, .data, .sentinel, .sentinel, .pinned] true (true, "20805b62c6369e3b7d5a863a0cd516ea3f034df5fa4be31eafb3c7ec479c8a48") true
    DimacsValidDone.over (fun _ h => by cases h) (by kernel_rfl) (fun _ h => by cases h) dimacsValid_row_tie rfl ⟨rfl, rfl⟩ (by kernel_rfl) rfl
    (fun f fn hf hfn => by
      obtain rfl : f = 7 := (Option.some.inj ((show Tryd.prog.funcNamed "weephole/weepholelaw03.DimacsValid" = some 7 by kernel_rfl).symm.trans hf)).symm
      obtain rfl : fn = Tryd.f7 := (Option.some.inj (Tryd.func7.symm.trans hfn)).symm
      exact ⟨by kernel_rfl, fun j t ht => by
        rw [Tryd.params7] at ht
        have hm : t ∈ [9] := by simpa using Array.mem_of_getElem? ht
        have hall : ([9].all fun u => !Tryd.prog.wantsStandIn u) = true := by kernel_rfl
        exact (show Tryd.prog.wantsStandIn t = false by simpa using List.all_eq_true.1 hall t hm)⟩)
    (by kernel_rfl)
#print axioms dimacsValid_holds
end Go.Proofs.YtfllhhgnflpagaaDoor
