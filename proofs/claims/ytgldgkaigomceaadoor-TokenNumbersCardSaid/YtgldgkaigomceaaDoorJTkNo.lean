/-
  TokenNumbers: numbers are read as they were written, also with zeros before them, up to 20 digits; a number is no name, and what begins with a letter no number. For every number and every number of zeros (reduced).
-/
import Derived.Test.YtgldgkaigomceaaDoorOpen
import Derived.Test.YtgldgkaigomceaaDoorTkNo
import Derived.Test.YtgldgkaigomceaaDoorFactA
import Derived.Test.YtgldgkaigomceaaDoorFactB
import Derived.Test.YtgldgkaigomceaaDoorFactC
import Derived.Test.YtgldgkaigomceaaDoorFactD
import Derived.Test.YtgldgkaigomceaaDoorTkNoO
import Derived.Test.YtgldgkaigomceaaDoorTie
import Derived.Test.YtgldgkaigomceaaDoorCards
import Derived.SevenTiedAt
import Derived.HandedShaped
import Derived.ProofKit
namespace Go.Proofs.YtgldgkaigomceaaDoor.TokenNumbersDone
set_option linter.unusedSimpArgs false
set_option linter.unusedVariables false
open Go.ChangeShapes Go.WideShapes Go.ChangeAt Go.RowKit Go.Joins
open Go.ChangeMaps (open_string shut_string)

theorem own : ownKnob Tryd.prog.godebug = none := by kernel_rfl
theorem laidOut : laidOutB Tryd.prog = true := by kernel_rfl

set_option maxRecDepth 100000 in
theorem lifted (os : Os) (started : os.Started) (H : Type) (enc : TypeId × Value → H) :
    ReturnsInHanded {} Tryd.checked os 4 .any (fun w args => (Rows.tokenNumbersSpec.pre enc Tryd.prog Tryd.f4 [] false w args ∧ laidMetH Tryd.prog laidNo w) ∧ sizedMet enc Tryd.prog Tryd.f4 (OpenSpec.ofChange Rows.tokenNumbersSpec) false w args) (Rows.tokenNumbersSpec.post enc Tryd.prog Tryd.f4 false true false false) := by
  refine handed_and_shaped (C := Tryd.checked) (X := fun w _ => laidMetH Tryd.prog laidNo w) (fun _ _ _ hh h => h.of_heap hh) own started (by kernel_rfl) Tryd.func4
    (ChangeSpec.witness_shaped (enc := enc) (C := Tryd.checked) (os := os) (X := fun w _ => laidMetH Tryd.prog laidNo w) false (World.doorLaid Tryd.prog 400 os) #[.int .u64 0, .int .i64 0] 8 rfl (World.shaped_of_RefB (by kernel_rfl) (by kernel_rfl)) (by kernel_rfl) (by kernel_rfl) (by kernel_rfl) (door_met os _)) ?_
  intro W base args ds gs before hval0 hW hcnd hsz0 hL hsh _
  obtain ⟨m, hm⟩ : ∃ m, W.cell? ⟨1, 0, none⟩ = some (.int .i64 m) := Tryd.laysM145.s1_3 W hsh
  have hsz : (DataW.weightsEach Tryd.prog (Tryd.f4.params.toList ++ Rows.tokenNumbersSpec.plain.varTypes Tryd.prog) (ds ++ gs)).all (· ≤ reachBytes) = true := hsz0
  clear hsz0
  have hval : ∀ (j : Nat) t v, Tryd.f4.params[j]? = some t → args[j]? = some v → Value.okWide Tryd.prog W .any base t v := hval0
  have hW' := hW
  obtain ⟨p, q, hA0, hV, rfl, hfz, hnd⟩ := hW
  have hA : DataW.TrodAll enc Tryd.prog W 0 (fun _ => true) true Tryd.f4.params.toList args.toList ds p := hA0
  rw [Tryd.params4] at hA hval hsz
  obtain ⟨v0, vs0, d0, ds0, p0, q0, hargs, rfl, rfl, h0, r0⟩ := trodAll_cons hA
  obtain ⟨v1, vs1, d1, ds1, p1, q1, rfl, rfl, rfl, h1, r1⟩ := trodAll_cons r0
  obtain ⟨rfl, rfl, rfl⟩ := trodAll_nil r1
  obtain rfl : args = #[v0, v1] := by cases args; simp_all
  obtain ⟨rfl, rfl⟩ := trodVars_none hV
  obtain ⟨i0, rfl, rfl, rfl, w0⟩ := open_int Tryd.underlying40 (hval 0 40 v0 rfl rfl) h0
  obtain ⟨i1, rfl, rfl, rfl, w1⟩ := open_int Tryd.underlying3 (hval 1 3 v1 rfl rfl) h1
  clear hA0 hval0
  refine (numbers_walkZ i0 i1 m W (wf_u64 w0) (wf_bounds w1) hm (pow_of_laid hL)).mono fun e W' ⟨he, bel⟩ => ?_
  subst he
  exact ⟨_, rfl, _, _, _, [], _, [], hW', trodAll_mk1 (shut_bool Tryd.underlying4 _), (trodAll_cons_mk (shut_int Tryd.underlying40 w0) (trodAll_cons_mk (shut_int Tryd.underlying3 w1) trodAll_mk0)), rfl, bel.frame _, fun h => by cases h⟩

set_option maxRecDepth 100000
theorem q0 : (Rows.tokenNumbersRow.wf (OpenSpec.ofChange Rows.tokenNumbersSpec)) = true := by kernel_rfl
theorem q1 : (laidOutB Tryd.pinned.checked.prog) = true := factLaid
theorem q2 : (mapsRowed Tryd.pinned.checked.prog) = true := factMaps
theorem q3 : (Tryd.f4.params.all (Tryd.pinned.checked.prog.readableRec ·)) = true := by kernel_rfl
theorem q4 : (namedTie Tryd.pinned.checked.prog Rows.tokenNumbersRow.named Rows.tokenNumbersSpec.vars) = true := by kernel_rfl
theorem q5 : ((Rows.tokenNumbersRow.stops == [])) = true := by kernel_rfl
theorem q6 : ((Tryd.pinned.checked.prog.stops == [])) = true := factStops
theorem q7 : ((Rows.tokenNumbersRow.knobs == [])) = true := by kernel_rfl
theorem q8 : ((Tryd.pinned.checked.prog.stopKnobs == [])) = true := factKnobs
theorem q9 : ((Rows.tokenNumbersRow.inPlace == Tryd.pinned.checked.prog.inPlace 4)) = true := by kernel_rfl
theorem q10 : ((Rows.tokenNumbersRow.unfollowed == Tryd.pinned.checked.prog.unfollowed 4)) = true := by kernel_rfl
theorem q11 : ((Rows.tokenNumbersRow.recurses == Tryd.pinned.checked.prog.recurses 4)) = true := by kernel_rfl
theorem q12 : ((Rows.tokenNumbersRow.named == Tryd.pinned.checked.prog.varsNamed 4)) = true := by kernel_rfl
theorem q13 : ((Rows.tokenNumbersRow.maps == (Tryd.f4.params.toList ++ Rows.tokenNumbersSpec.plain.varTypes Tryd.pinned.checked.prog).any (Tryd.pinned.checked.prog.mapsRec ·))) = true := by kernel_rfl
theorem q14 : ((Rows.tokenNumbersRow.ifaces == (Tryd.f4.params.toList ++ Rows.tokenNumbersSpec.plain.varTypes Tryd.pinned.checked.prog).any (Tryd.pinned.checked.prog.ifacesRec ·))) = true := by kernel_rfl
theorem q15 : ((Rows.tokenNumbersRow.mapsOut == Tryd.pinned.checked.prog.mapsAmong Tryd.f4.resultTypes.toList)) = true := by kernel_rfl
theorem q16 : ((Rows.tokenNumbersRow.loops == (Tryd.f4.params.toList ++ Rows.tokenNumbersSpec.plain.varTypes Tryd.pinned.checked.prog).any (Tryd.pinned.checked.prog.loopsFrom ·))) = true := by kernel_rfl
theorem q17 : ((Rows.tokenNumbersRow.wideKeys == (Tryd.f4.params.toList ++ Rows.tokenNumbersSpec.plain.varTypes Tryd.pinned.checked.prog ++ Tryd.f4.resultTypes.toList).any (Tryd.pinned.checked.prog.wideKeysFrom ·))) = true := by kernel_rfl
theorem q18 : (Rows.tokenNumbersSpec.vars.all (Tryd.pinned.checked.prog.varReadable ·)) = true := by kernel_rfl
theorem q19 : (Tryd.f4.resultTypes.all (fun t => Tryd.pinned.checked.prog.readableRec t && decide (t < Tryd.pinned.checked.prog.types.size))) = true := by kernel_rfl
theorem q20 : ((Rows.tokenNumbersRow.ifacesOut == Tryd.f4.resultTypes.toList.any (Tryd.pinned.checked.prog.ifacesRec ·))) = true := by kernel_rfl
theorem q21 : ((Rows.tokenNumbersRow.loopsOut == Tryd.f4.resultTypes.toList.any (Tryd.pinned.checked.prog.loopsFrom ·))) = true := by kernel_rfl
theorem q22 : ((Rows.tokenNumbersRow.plainKeys == Tryd.pinned.checked.prog.plainKeys)) = true := factKeys
theorem q23 : (Rows.tokenNumbersRow.shortTexts.isNone) = true := by kernel_rfl
theorem q24 : (Tryd.pinned.checked.prog.stopsHeard) = true := factHeard
theorem q25 : (Tryd.pinned.checked.prog.mayEnter) = true := factA
theorem q26 : ((Rows.tokenNumbersRow.lifted == Tryd.pinned.checked.prog.liftsFinal)) = true := factB
theorem q27 : ((Tryd.pinned.checked.prog.make == some Rows.tokenNumbersRow.make)) = true := factC
theorem q28 : ((Rows.tokenNumbersRow.kinds == (if Rows.tokenNumbersRow.domain.isEmpty then [] else Tryd.f4.params.toList.map fun t => match Tryd.pinned.checked.prog.underlying t with | some (.int k) => some k | _ => none))) = true := by kernel_rfl
theorem q29 : ((Rows.tokenNumbersRow.pinned == Rows.tokenNumbersRow.pinnedBy)) = true := by kernel_rfl
theorem q30 : ((Rows.tokenNumbersRow.veiled == (Tryd.f4.params.toList ++ Rows.tokenNumbersSpec.plain.varTypes Tryd.pinned.checked.prog ++ Tryd.f4.resultTypes.toList).any (Tryd.pinned.checked.prog.veiledRec ·))) = true := by kernel_rfl
theorem q31 : (Rows.tokenNumbersRow.veiledFits Tryd.pinned.checked.prog Tryd.f4.params.toList (Tryd.f4.params.toList ++ Rows.tokenNumbersSpec.plain.varTypes Tryd.pinned.checked.prog ++ Tryd.f4.resultTypes.toList)) = true := by kernel_rfl
theorem closed : joinedFacts Tryd.pinned.checked.prog 4 Tryd.f4 Rows.tokenNumbersSpec Rows.tokenNumbersRow = true := by
  unfold joinedFacts
  exact andT (andT (andT (andT (andT (andT (andT (andT (andT (andT (andT (andT (andT (andT (andT (andT (andT (andT (andT (andT (andT (andT (andT (andT (andT (andT (andT (andT (andT (andT (andT q0 q1) q2) q3) q4) q5) q6) q7) q8) q9) q10) q11) q12) q13) q14) q15) q16) q17) q18) q19) q20) q21) q22) q23) q24) q25) q26) q27) q28) q29) q30) q31

theorem over : Rows.tokenNumbersRow.holds Tryd.pinned (OpenSpec.ofChange Rows.tokenNumbersSpec) :=
  OpenClaim.holds_of_wide 4 Tryd.f4 rfl rfl rfl rfl rfl rfl rfl ⟨rfl, rfl, rfl, rfl, rfl⟩ rfl rfl rfl rfl rfl (by kernel_rfl) Tryd.func4 closed
    (of_decide_eq_true (by kernel_rfl)) (by unfold Func.isWrapper; first | (rw [if_pos (by decide +kernel)]; kernel_rfl) | (rw [if_neg (by decide +kernel)]; exact ⟨rfl, rfl⟩))
    (fun os started H enc _ => lifted os started H enc)

end Go.Proofs.YtgldgkaigomceaaDoor.TokenNumbersDone
namespace Go.Proofs.YtgldgkaigomceaaDoor
theorem tokenNumbers_holds : Rows.TokenNumbersCardSaid :=
  Claim7.holds_tied_plain_at .later [] [.data, .data, .data] true (true, "1b8fc47f696f358abc904d6736cccf8bdb80b908ee8a59f921e5db765134ed03") false
    TokenNumbersDone.over (fun _ h => by cases h) (by kernel_rfl) (fun _ h => by cases h) tokenNumbers_row_tie rfl ⟨rfl, rfl⟩ (by kernel_rfl) rfl
    (fun f fn hf hfn => by
      obtain rfl : f = 4 := (Option.some.inj ((show Tryd.prog.funcNamed "weephole/weepholelaw21.TokenNumbers" = some 4 by kernel_rfl).symm.trans hf)).symm
      obtain rfl : fn = Tryd.f4 := (Option.some.inj (Tryd.func4.symm.trans hfn)).symm
      exact ⟨by kernel_rfl, fun j t ht => by
        rw [Tryd.params4] at ht
        have hm : t ∈ [40, 3] := by simpa using Array.mem_of_getElem? ht
        have hall : ([40, 3].all fun u => !Tryd.prog.wantsStandIn u) = true := by kernel_rfl
        exact (show Tryd.prog.wantsStandIn t = false by simpa using List.all_eq_true.1 hall t hm)⟩)
    (by kernel_rfl)
#print axioms tokenNumbers_holds
end Go.Proofs.YtgldgkaigomceaaDoor
