/-
  The law ShiftTwice returns true for every input (any word of literals, any two numbers, reduced): a shift by a sum that is less than the width is the shift by one number, and then by the other. Conditions: the package-level variable ops of the law holds what the program text lays (tied by the card).
-/
import Derived.Test.YtjcnhnifageikaaDoorOpen
import Derived.Test.YtjcnhnifageikaaDoorShT2
import Derived.Test.YtjcnhnifageikaaDoorFactA
import Derived.Test.YtjcnhnifageikaaDoorFactB
import Derived.Test.YtjcnhnifageikaaDoorFactC
import Derived.Test.YtjcnhnifageikaaDoorFactD
import Derived.Test.YtjcnhnifageikaaDoorShOpen
import Derived.Test.YtjcnhnifageikaaDoorTie
import Derived.Test.YtjcnhnifageikaaDoorCards
import Derived.SevenTiedAt
namespace Go.Proofs.YtjcnhnifageikaaDoor.ShiftTwiceDone
set_option linter.unusedSimpArgs false
set_option linter.unusedVariables false
open Go.ChangeShapes Go.WideShapes Go.ChangeAt Go.RowKit Go.Joins

theorem own : ownKnob Tryd.prog.godebug = none := by kernel_rfl
theorem laidOut : laidOutB Tryd.prog = true := by kernel_rfl
theorem cellsW : Tryd.prog.cellsOf 25 = 4 := by kernel_rfl

set_option maxRecDepth 100000 in
set_option maxHeartbeats 3200000 in
theorem lifted (os : Os) (started : os.Started) (H : Type) (enc : TypeId × Value → H) :
    ReturnsInHanded {} Tryd.checked os 6 .any (fun w args => (Rows.shiftTwiceSpec.pre enc Tryd.prog Tryd.f6 [] false w args ∧ laidMetH Tryd.prog [("weephole/weepholelaw18.ops", Rows.laid_weephole_weepholelaw18_ops)] w) ∧ sizedMet enc Tryd.prog Tryd.f6 (OpenSpec.ofChange Rows.shiftTwiceSpec) false w args) (Rows.shiftTwiceSpec.post enc Tryd.prog Tryd.f6 false true false false) := by
  refine returnsInHanded_of_change_and (C := Tryd.checked) (X := fun w _ => laidMetH Tryd.prog [("weephole/weepholelaw18.ops", Rows.laid_weephole_weepholelaw18_ops)] w) (fun _ _ _ hh h => h.of_heap hh) own started (by kernel_rfl) Tryd.func6
    (ChangeSpec.witness_shaped (enc := enc) (C := Tryd.checked) (os := os) (X := fun w _ => laidMetH Tryd.prog [("weephole/weepholelaw18.ops", Rows.laid_weephole_weepholelaw18_ops)] w) false (World.doorLaid Tryd.prog 400 os) #[.agg #[.int .i64 0, .slice none 0 0, .slice none 0 0, .slice none 0 0], .int .i64 0, .int .i64 0] 8 rfl (World.shaped_of_RefB (by kernel_rfl) (by kernel_rfl)) (by kernel_rfl) (by kernel_rfl) (by kernel_rfl) (door_met os _)) ?_
  intro W base args ds gs before hval0 hW hcnd hsz0 hL _
  have hO := ops_of_laid hL
  have hsz : (DataW.weightsEach Tryd.prog (Tryd.f6.params.toList ++ Rows.shiftTwiceSpec.plain.varTypes Tryd.prog) (ds ++ gs)).all (· ≤ reachBytes) = true := hsz0
  clear hsz0
  have hval : ∀ (j : Nat) t v, Tryd.f6.params[j]? = some t → args[j]? = some v → Value.okWide Tryd.prog W .any base t v := hval0
  have hW' := hW
  obtain ⟨p, q, hA0, hV, rfl, hfz, hnd⟩ := hW
  have hA : DataW.TrodAll enc Tryd.prog W 0 (fun _ => true) true Tryd.f6.params.toList args.toList ds p := hA0
  rw [Tryd.params6] at hA hval hsz
  obtain ⟨v0, vs0, d0, ds0, p0, q0, hargs, rfl, rfl, h0, r0⟩ := trodAll_cons hA
  obtain ⟨v1, vs1, d1, ds1, p1, q1, rfl, rfl, rfl, h1, r1⟩ := trodAll_cons r0
  obtain ⟨v2, vs2, d2, ds2, p2, q2, rfl, rfl, rfl, h2, r2⟩ := trodAll_cons r1
  obtain ⟨rfl, rfl, rfl⟩ := trodAll_nil r2
  obtain rfl : args = #[v0, v1, v2] := by cases args; simp_all
  obtain ⟨rfl, rfl⟩ := trodVars_none hV
  have k0 := h0
  have lt0 : ∀ x ∈ p0, x.block < W.heap.size := by obtain ⟨m, hm⟩ := k0; exact DataW.trod_lt m _ _ _ hm
  have hwt0 : ∀ m ∈ d0.weights Tryd.prog 25, m ≤ reachBytes := fun m hm => by
    have := List.all_eq_true.1 hsz m (DataW.weights_mem_each (j := 0) rfl rfl m hm)
    simpa using this
  obtain ⟨c0, c1, c2, c3, y0, y1, y2, y3, n, rfl, rfl, rfl, hy0, hy1, hy2, hy3⟩ := open_agg4 Tryd.underlying25 (by kernel_rfl) cellsW (hval 0 25 v0 rfl rfl) h0
  obtain ⟨z, e0, rfl, wz⟩ := DataW.trod_int Tryd.underlying3 hy0
  simp at e0
  subst e0
  obtain ⟨i1, rfl, rfl, rfl, w1⟩ := open_int Tryd.underlying3 (hval 1 3 v1 rfl rfl) h1
  obtain ⟨i2, rfl, rfl, rfl, w2⟩ := open_int Tryd.underlying3 (hval 2 3 v2 rfl rfl) h2
  have hw1 : ∀ m ∈ y1.1.weights Tryd.prog 22, m ≤ reachBytes := fun m hm => hwt0 m (by simp [DataW.weights, Tryd.underlying25, DataW.weightsEach, hm])
  have hw2 : ∀ m ∈ y2.1.weights Tryd.prog 23, m ≤ reachBytes := fun m hm => hwt0 m (by simp [DataW.weights, Tryd.underlying25, DataW.weightsEach, hm])
  have hw3 : ∀ m ∈ y3.1.weights Tryd.prog 23, m ≤ reachBytes := fun m hm => hwt0 m (by simp [DataW.weights, Tryd.underlying25, DataW.weightsEach, hm])
  obtain ⟨vals, ib⟩ := bools_open hy1 hw1
  obtain ⟨lx, ix, bx⟩ := ints_open hy2 hw2
  obtain ⟨ly, iy, biy⟩ := ints_open hy3 hw3
  clear hA0 hval0
  refine (shtwice_walk z i1 i2 vals lx ly c1 c2 c3 W hO (wf_bounds wz) (wf_bounds w1) (wf_bounds w2) ib ix iy bx biy).mono fun e W' ⟨he, bel⟩ => ?_
  subst he
  exact ⟨_, rfl, _, _, _, [], _, [], hW', trodAll_mk1 (shut_bool Tryd.underlying4 _), (trodAll_cons_mk (Below.trod laidOut (by kernel_rfl) (of_decide_eq_true (by kernel_rfl)) k0 bel lt0) (trodAll_cons_mk (shut_int Tryd.underlying3 w1) (trodAll_cons_mk (shut_int Tryd.underlying3 w2) trodAll_mk0))), rfl, bel.frame _, fun h => by cases h⟩

set_option maxRecDepth 100000
theorem q0 : (Rows.shiftTwiceRow.wf (OpenSpec.ofChange Rows.shiftTwiceSpec)) = true := by kernel_rfl
theorem q1 : (laidOutB Tryd.pinned.checked.prog) = true := factLaid
theorem q2 : (mapsRowed Tryd.pinned.checked.prog) = true := factMaps
theorem q3 : (Tryd.f6.params.all (Tryd.pinned.checked.prog.readableRec ·)) = true := by kernel_rfl
theorem q4 : (namedTie Tryd.pinned.checked.prog Rows.shiftTwiceRow.named Rows.shiftTwiceSpec.vars) = true := by kernel_rfl
theorem q5 : ((Rows.shiftTwiceRow.stops == [])) = true := by kernel_rfl
theorem q6 : ((Tryd.pinned.checked.prog.stops == [])) = true := factStops
theorem q7 : ((Rows.shiftTwiceRow.knobs == [])) = true := by kernel_rfl
theorem q8 : ((Tryd.pinned.checked.prog.stopKnobs == [])) = true := factKnobs
theorem q9 : ((Rows.shiftTwiceRow.inPlace == Tryd.pinned.checked.prog.inPlace 6)) = true := by kernel_rfl
theorem q10 : ((Rows.shiftTwiceRow.unfollowed == Tryd.pinned.checked.prog.unfollowed 6)) = true := by kernel_rfl
theorem q11 : ((Rows.shiftTwiceRow.recurses == Tryd.pinned.checked.prog.recurses 6)) = true := by kernel_rfl
theorem q12 : ((Rows.shiftTwiceRow.named == Tryd.pinned.checked.prog.varsNamed 6)) = true := by kernel_rfl
theorem q13 : ((Rows.shiftTwiceRow.maps == (Tryd.f6.params.toList ++ Rows.shiftTwiceSpec.plain.varTypes Tryd.pinned.checked.prog).any (Tryd.pinned.checked.prog.mapsRec ·))) = true := by kernel_rfl
theorem q14 : ((Rows.shiftTwiceRow.ifaces == (Tryd.f6.params.toList ++ Rows.shiftTwiceSpec.plain.varTypes Tryd.pinned.checked.prog).any (Tryd.pinned.checked.prog.ifacesRec ·))) = true := by kernel_rfl
theorem q15 : ((Rows.shiftTwiceRow.mapsOut == Tryd.pinned.checked.prog.mapsAmong Tryd.f6.resultTypes.toList)) = true := by kernel_rfl
theorem q16 : ((Rows.shiftTwiceRow.loops == (Tryd.f6.params.toList ++ Rows.shiftTwiceSpec.plain.varTypes Tryd.pinned.checked.prog).any (Tryd.pinned.checked.prog.loopsFrom ·))) = true := by kernel_rfl
theorem q17 : ((Rows.shiftTwiceRow.wideKeys == (Tryd.f6.params.toList ++ Rows.shiftTwiceSpec.plain.varTypes Tryd.pinned.checked.prog ++ Tryd.f6.resultTypes.toList).any (Tryd.pinned.checked.prog.wideKeysFrom ·))) = true := by kernel_rfl
theorem q18 : (Rows.shiftTwiceSpec.vars.all (Tryd.pinned.checked.prog.varReadable ·)) = true := by kernel_rfl
theorem q19 : (Tryd.f6.resultTypes.all (fun t => Tryd.pinned.checked.prog.readableRec t && decide (t < Tryd.pinned.checked.prog.types.size))) = true := by kernel_rfl
theorem q20 : ((Rows.shiftTwiceRow.ifacesOut == Tryd.f6.resultTypes.toList.any (Tryd.pinned.checked.prog.ifacesRec ·))) = true := by kernel_rfl
theorem q21 : ((Rows.shiftTwiceRow.loopsOut == Tryd.f6.resultTypes.toList.any (Tryd.pinned.checked.prog.loopsFrom ·))) = true := by kernel_rfl
theorem q22 : ((Rows.shiftTwiceRow.plainKeys == Tryd.pinned.checked.prog.plainKeys)) = true := factKeys
theorem q23 : (Rows.shiftTwiceRow.shortTexts.isNone) = true := by kernel_rfl
theorem q24 : (Tryd.pinned.checked.prog.stopsHeard) = true := factHeard
theorem q25 : (Tryd.pinned.checked.prog.mayEnter) = true := factA
theorem q26 : ((Rows.shiftTwiceRow.lifted == Tryd.pinned.checked.prog.liftsFinal)) = true := factB
theorem q27 : ((Tryd.pinned.checked.prog.make == some Rows.shiftTwiceRow.make)) = true := factC
theorem q28 : ((Rows.shiftTwiceRow.kinds == (if Rows.shiftTwiceRow.domain.isEmpty then [] else Tryd.f6.params.toList.map fun t => match Tryd.pinned.checked.prog.underlying t with | some (.int k) => some k | _ => none))) = true := by kernel_rfl
theorem q29 : ((Rows.shiftTwiceRow.pinned == Rows.shiftTwiceRow.pinnedBy)) = true := by kernel_rfl
theorem q30 : ((Rows.shiftTwiceRow.veiled == (Tryd.f6.params.toList ++ Rows.shiftTwiceSpec.plain.varTypes Tryd.pinned.checked.prog ++ Tryd.f6.resultTypes.toList).any (Tryd.pinned.checked.prog.veiledRec ·))) = true := by kernel_rfl
theorem q31 : (Rows.shiftTwiceRow.veiledFits Tryd.pinned.checked.prog Tryd.f6.params.toList (Tryd.f6.params.toList ++ Rows.shiftTwiceSpec.plain.varTypes Tryd.pinned.checked.prog ++ Tryd.f6.resultTypes.toList)) = true := by kernel_rfl
theorem closed : joinedFacts Tryd.pinned.checked.prog 6 Tryd.f6 Rows.shiftTwiceSpec Rows.shiftTwiceRow = true := by
  unfold joinedFacts
  exact andT (andT (andT (andT (andT (andT (andT (andT (andT (andT (andT (andT (andT (andT (andT (andT (andT (andT (andT (andT (andT (andT (andT (andT (andT (andT (andT (andT (andT (andT (andT q0 q1) q2) q3) q4) q5) q6) q7) q8) q9) q10) q11) q12) q13) q14) q15) q16) q17) q18) q19) q20) q21) q22) q23) q24) q25) q26) q27) q28) q29) q30) q31

theorem over : Rows.shiftTwiceRow.holds Tryd.pinned (OpenSpec.ofChange Rows.shiftTwiceSpec) :=
  OpenClaim.holds_of_wide 6 Tryd.f6 rfl rfl rfl rfl rfl rfl rfl ⟨rfl, rfl, rfl, rfl, rfl⟩ rfl rfl rfl rfl rfl (by kernel_rfl) Tryd.func6 closed
    (of_decide_eq_true (by kernel_rfl)) (by unfold Func.isWrapper; first | (rw [if_pos (by decide +kernel)]; kernel_rfl) | (rw [if_neg (by decide +kernel)]; exact ⟨rfl, rfl⟩))
    (fun os started H enc _ => lifted os started H enc)

end Go.Proofs.YtjcnhnifageikaaDoor.ShiftTwiceDone
namespace Go.Proofs.YtjcnhnifageikaaDoor
theorem shiftTwice_holds : Rows.ShiftTwiceCardSaid :=
  Claim7.holds_tied_plain_at .later [] [.data] true (true, "f8d4157f06dd8963862172d67266b17a89d1cf3b64faeb26dbf3b9a8338d758a") false
    ShiftTwiceDone.over (fun _ h => by cases h) (by kernel_rfl) (fun _ h => by cases h) shiftTwice_row_tie rfl ⟨rfl, rfl⟩ (by kernel_rfl) rfl
    (fun f fn hf hfn => by
      obtain rfl : f = 6 := (Option.some.inj ((show Tryd.prog.funcNamed "weephole/weepholelaw18.ShiftTwice" = some 6 by kernel_rfl).symm.trans hf)).symm
      obtain rfl : fn = Tryd.f6 := (Option.some.inj (Tryd.func6.symm.trans hfn)).symm
      exact ⟨by kernel_rfl, fun j t ht => by
        rw [Tryd.params6] at ht
        have hm : t ∈ [25, 3, 3] := by simpa using Array.mem_of_getElem? ht
        have hall : ([25, 3, 3].all fun u => !Tryd.prog.wantsStandIn u) = true := by kernel_rfl
        exact (show Tryd.prog.wantsStandIn t = false by simpa using List.all_eq_true.1 hall t hm)⟩)
    (by kernel_rfl)
#print axioms shiftTwice_holds
end Go.Proofs.YtjcnhnifageikaaDoor
