/-
  The law ShiftEdges returns true for every input (any words of literals, any number): which literal of x each literal of the result has the value of. Conditions: the package-level variable ops of the law holds what the program text lays (tied by the card).
-/
import Derived.Test.YtjcnhnifageikaaDoorOpen
import Derived.Test.YtjcnhnifageikaaDoorShE
import Derived.Test.YtjcnhnifageikaaDoorFactA
import Derived.Test.YtjcnhnifageikaaDoorFactB
import Derived.Test.YtjcnhnifageikaaDoorFactC
import Derived.Test.YtjcnhnifageikaaDoorFactD
import Derived.Test.YtjcnhnifageikaaDoorShOpen
import Derived.Test.YtjcnhnifageikaaDoorTie
import Derived.Test.YtjcnhnifageikaaDoorCards
import Derived.SevenTiedAt
namespace Go.Proofs.YtjcnhnifageikaaDoor.ShiftEdgesDone
set_option linter.unusedSimpArgs false
set_option linter.unusedVariables false
open Go.ChangeShapes Go.WideShapes Go.ChangeAt Go.RowKit Go.Joins

theorem own : ownKnob Tryd.prog.godebug = none := by kernel_rfl
theorem laidOut : laidOutB Tryd.prog = true := by kernel_rfl
theorem array6 {α : Type} {cs : Array α} (h : cs.size = 6) : ∃ c0 c1 c2 c3 c4 c5, cs = #[c0, c1, c2, c3, c4, c5] := by
  obtain ⟨l⟩ := cs
  match l, h with
  | [c0, c1, c2, c3, c4, c5], _ => exact ⟨c0, c1, c2, c3, c4, c5, rfl⟩
theorem list3 {α : Type} {l : List α} (h : l.length = 3) : ∃ a b c, l = [a, b, c] := by
  match l, h with
  | [a, b, c], _ => exact ⟨a, b, c, rfl⟩
theorem cellsB : Tryd.prog.cellsOf 27 = 6 := by kernel_rfl
theorem cellsW : Tryd.prog.cellsOf 25 = 4 := by kernel_rfl
theorem cellsI : Tryd.prog.cellsOf 3 = 1 := by kernel_rfl
theorem cellsO : Tryd.prog.cellsOf 4 = 1 := by kernel_rfl
theorem cellsB1 : Tryd.prog.cellsOf 22 = 1 := by kernel_rfl
theorem cellsI1 : Tryd.prog.cellsOf 23 = 1 := by kernel_rfl

set_option maxRecDepth 100000 in
set_option maxHeartbeats 3200000 in
theorem lifted (os : Os) (started : os.Started) (H : Type) (enc : TypeId × Value → H) :
    ReturnsInHanded {} Tryd.checked os 5 .any (fun w args => (Rows.shiftEdgesSpec.pre enc Tryd.prog Tryd.f5 [] false w args ∧ laidMetH Tryd.prog [("weephole/weepholelaw18.ops", Rows.laid_weephole_weepholelaw18_ops)] w) ∧ sizedMet enc Tryd.prog Tryd.f5 (OpenSpec.ofChange Rows.shiftEdgesSpec) false w args) (Rows.shiftEdgesSpec.post enc Tryd.prog Tryd.f5 false true false false) := by
  refine returnsInHanded_of_change_and (C := Tryd.checked) (X := fun w _ => laidMetH Tryd.prog [("weephole/weepholelaw18.ops", Rows.laid_weephole_weepholelaw18_ops)] w) (fun _ _ _ hh h => h.of_heap hh) own started (by kernel_rfl) Tryd.func5
    (ChangeSpec.witness_shaped (enc := enc) (C := Tryd.checked) (os := os) (X := fun w _ => laidMetH Tryd.prog [("weephole/weepholelaw18.ops", Rows.laid_weephole_weepholelaw18_ops)] w) false (World.doorLaid Tryd.prog 400 os) #[.agg #[.int .i64 0, .slice none 0 0, .slice none 0 0, .slice none 0 0, .int .i64 0, .bool false]] 8 rfl (World.shaped_of_RefB (by kernel_rfl) (by kernel_rfl)) (by kernel_rfl) (by kernel_rfl) (by kernel_rfl) (door_met os _)) ?_
  intro W base args ds gs before hval0 hW hcnd hsz0 hL _
  have hO := ops_of_laid hL
  have hsz : (DataW.weightsEach Tryd.prog (Tryd.f5.params.toList ++ Rows.shiftEdgesSpec.plain.varTypes Tryd.prog) (ds ++ gs)).all (· ≤ reachBytes) = true := hsz0
  clear hsz0
  have hval : ∀ (j : Nat) t v, Tryd.f5.params[j]? = some t → args[j]? = some v → Value.okWide Tryd.prog W .any base t v := hval0
  have hW' := hW
  obtain ⟨p, q, hA0, hV, rfl, hfz, hnd⟩ := hW
  have hA : DataW.TrodAll enc Tryd.prog W 0 (fun _ => true) true Tryd.f5.params.toList args.toList ds p := hA0
  rw [Tryd.params5] at hA hval hsz
  obtain ⟨v0, vs0, d0, ds0, p0, q0, hargs, rfl, rfl, h0, r0⟩ := trodAll_cons hA
  obtain ⟨rfl, rfl, rfl⟩ := trodAll_nil r0
  obtain rfl : args = #[v0] := by cases args; simp_all
  obtain ⟨rfl, rfl⟩ := trodVars_none hV
  have k0 := h0
  have lt0 : ∀ x ∈ p0, x.block < W.heap.size := by obtain ⟨m, hm⟩ := k0; exact DataW.trod_lt m _ _ _ hm
  have hwt0 : ∀ m ∈ d0.weights Tryd.prog 27, m ≤ reachBytes := fun m hm => by
    have := List.all_eq_true.1 hsz m (DataW.weights_mem_each (j := 0) rfl rfl m hm)
    simpa using this
  obtain ⟨cs, rfl, hcs⟩ := okWide_struct Tryd.underlying27 (hval 0 27 v0 rfl rfl)
  obtain ⟨c0, c1, c2, c3, c4, c5, rfl⟩ := array6 (hcs.trans cellsB)
  obtain ⟨fuel, hfu⟩ := h0
  obtain ⟨xs, n, _, hxe, hl, hlen, hf⟩ := DataW.trod_struct Tryd.underlying27 hfu
  obtain ⟨yw, yn, yr, rfl⟩ := list3 hlen
  simp only [Prod.mk.injEq] at hxe
  obtain ⟨rfl, rfl⟩ := hxe
  have hfw : DataW.trod enc Tryd.prog W 0 (fun _ => true) true n 25 [c0, c1, c2, c3] = some yw := by simpa [Value.cells, cellsW] using hf 0 _ rfl
  have hfn : DataW.trod enc Tryd.prog W 0 (fun _ => true) true n 3 [c4] = some yn := by simpa [Value.cells, cellsI] using hf 1 _ rfl
  have hfr : DataW.trod enc Tryd.prog W 0 (fun _ => true) true n 4 [c5] = some yr := by simpa [Value.cells, cellsO] using hf 2 _ rfl
  obtain ⟨y0, y1, y2, y3, n2, rfl, _, hy0', hy1', hy2', hy3'⟩ := trod_struct4 Tryd.underlying25 hfw
  have hy0 : DataW.trod enc Tryd.prog W 0 (fun _ => true) true n2 3 [c0] = some y0 := by simpa [cellsI] using hy0'
  have hy1 : DataW.trod enc Tryd.prog W 0 (fun _ => true) true n2 22 [c1] = some y1 := by simpa [cellsB1] using hy1'
  have hy2 : DataW.trod enc Tryd.prog W 0 (fun _ => true) true n2 23 [c2] = some y2 := by simpa [cellsI1] using hy2'
  have hy3 : DataW.trod enc Tryd.prog W 0 (fun _ => true) true n2 23 [c3] = some y3 := by simpa [cellsI1] using hy3'
  obtain ⟨z, e0, rfl, wz⟩ := DataW.trod_int Tryd.underlying3 hy0
  simp at e0
  subst e0
  obtain ⟨nn, e1, rfl, wn⟩ := DataW.trod_int Tryd.underlying3 hfn
  simp at e1
  subst e1
  obtain ⟨rl, e2, rfl⟩ := DataW.trod_bool Tryd.underlying4 hfr
  simp at e2
  subst e2
  have hw1 : ∀ m ∈ y1.1.weights Tryd.prog 22, m ≤ reachBytes := fun m hm => hwt0 m (by simp [DataW.weights, Tryd.underlying27, Tryd.underlying25, DataW.weightsEach, hm])
  have hw2 : ∀ m ∈ y2.1.weights Tryd.prog 23, m ≤ reachBytes := fun m hm => hwt0 m (by simp [DataW.weights, Tryd.underlying27, Tryd.underlying25, DataW.weightsEach, hm])
  have hw3 : ∀ m ∈ y3.1.weights Tryd.prog 23, m ≤ reachBytes := fun m hm => hwt0 m (by simp [DataW.weights, Tryd.underlying27, Tryd.underlying25, DataW.weightsEach, hm])
  obtain ⟨vals, ib⟩ := bools_open hy1 hw1
  obtain ⟨lx, ix, bx⟩ := ints_open hy2 hw2
  obtain ⟨ly, iy, biy⟩ := ints_open hy3 hw3
  clear hA0 hval0
  refine (shedges_walk z nn rl vals lx ly c1 c2 c3 W hO (wf_bounds wz) (wf_bounds wn) ib ix iy bx biy).mono fun e W' ⟨he, bel⟩ => ?_
  subst he
  exact ⟨_, rfl, _, _, _, [], _, [], hW', trodAll_mk1 (shut_bool Tryd.underlying4 _), (trodAll_cons_mk (Below.trod laidOut (by kernel_rfl) (of_decide_eq_true (by kernel_rfl)) k0 bel lt0) trodAll_mk0), rfl, bel.frame _, fun h => by cases h⟩

set_option maxRecDepth 100000
theorem q0 : (Rows.shiftEdgesRow.wf (OpenSpec.ofChange Rows.shiftEdgesSpec)) = true := by kernel_rfl
theorem q1 : (laidOutB Tryd.pinned.checked.prog) = true := factLaid
theorem q2 : (mapsRowed Tryd.pinned.checked.prog) = true := factMaps
theorem q3 : (Tryd.f5.params.all (Tryd.pinned.checked.prog.readableRec ·)) = true := by kernel_rfl
theorem q4 : (namedTie Tryd.pinned.checked.prog Rows.shiftEdgesRow.named Rows.shiftEdgesSpec.vars) = true := by kernel_rfl
theorem q5 : ((Rows.shiftEdgesRow.stops == [])) = true := by kernel_rfl
theorem q6 : ((Tryd.pinned.checked.prog.stops == [])) = true := factStops
theorem q7 : ((Rows.shiftEdgesRow.knobs == [])) = true := by kernel_rfl
theorem q8 : ((Tryd.pinned.checked.prog.stopKnobs == [])) = true := factKnobs
theorem q9 : ((Rows.shiftEdgesRow.inPlace == Tryd.pinned.checked.prog.inPlace 5)) = true := by kernel_rfl
theorem q10 : ((Rows.shiftEdgesRow.unfollowed == Tryd.pinned.checked.prog.unfollowed 5)) = true := by kernel_rfl
theorem q11 : ((Rows.shiftEdgesRow.recurses == Tryd.pinned.checked.prog.recurses 5)) = true := by kernel_rfl
theorem q12 : ((Rows.shiftEdgesRow.named == Tryd.pinned.checked.prog.varsNamed 5)) = true := by kernel_rfl
theorem q13 : ((Rows.shiftEdgesRow.maps == (Tryd.f5.params.toList ++ Rows.shiftEdgesSpec.plain.varTypes Tryd.pinned.checked.prog).any (Tryd.pinned.checked.prog.mapsRec ·))) = true := by kernel_rfl
theorem q14 : ((Rows.shiftEdgesRow.ifaces == (Tryd.f5.params.toList ++ Rows.shiftEdgesSpec.plain.varTypes Tryd.pinned.checked.prog).any (Tryd.pinned.checked.prog.ifacesRec ·))) = true := by kernel_rfl
theorem q15 : ((Rows.shiftEdgesRow.mapsOut == Tryd.pinned.checked.prog.mapsAmong Tryd.f5.resultTypes.toList)) = true := by kernel_rfl
theorem q16 : ((Rows.shiftEdgesRow.loops == (Tryd.f5.params.toList ++ Rows.shiftEdgesSpec.plain.varTypes Tryd.pinned.checked.prog).any (Tryd.pinned.checked.prog.loopsFrom ·))) = true := by kernel_rfl
theorem q17 : ((Rows.shiftEdgesRow.wideKeys == (Tryd.f5.params.toList ++ Rows.shiftEdgesSpec.plain.varTypes Tryd.pinned.checked.prog ++ Tryd.f5.resultTypes.toList).any (Tryd.pinned.checked.prog.wideKeysFrom ·))) = true := by kernel_rfl
theorem q18 : (Rows.shiftEdgesSpec.vars.all (Tryd.pinned.checked.prog.varReadable ·)) = true := by kernel_rfl
theorem q19 : (Tryd.f5.resultTypes.all (fun t => Tryd.pinned.checked.prog.readableRec t && decide (t < Tryd.pinned.checked.prog.types.size))) = true := by kernel_rfl
theorem q20 : ((Rows.shiftEdgesRow.ifacesOut == Tryd.f5.resultTypes.toList.any (Tryd.pinned.checked.prog.ifacesRec ·))) = true := by kernel_rfl
theorem q21 : ((Rows.shiftEdgesRow.loopsOut == Tryd.f5.resultTypes.toList.any (Tryd.pinned.checked.prog.loopsFrom ·))) = true := by kernel_rfl
theorem q22 : ((Rows.shiftEdgesRow.plainKeys == Tryd.pinned.checked.prog.plainKeys)) = true := factKeys
theorem q23 : (Rows.shiftEdgesRow.shortTexts.isNone) = true := by kernel_rfl
theorem q24 : (Tryd.pinned.checked.prog.stopsHeard) = true := factHeard
theorem q25 : (Tryd.pinned.checked.prog.mayEnter) = true := factA
theorem q26 : ((Rows.shiftEdgesRow.lifted == Tryd.pinned.checked.prog.liftsFinal)) = true := factB
theorem q27 : ((Tryd.pinned.checked.prog.make == some Rows.shiftEdgesRow.make)) = true := factC
theorem q28 : ((Rows.shiftEdgesRow.kinds == (if Rows.shiftEdgesRow.domain.isEmpty then [] else Tryd.f5.params.toList.map fun t => match Tryd.pinned.checked.prog.underlying t with | some (.int k) => some k | _ => none))) = true := by kernel_rfl
theorem q29 : ((Rows.shiftEdgesRow.pinned == Rows.shiftEdgesRow.pinnedBy)) = true := by kernel_rfl
theorem q30 : ((Rows.shiftEdgesRow.veiled == (Tryd.f5.params.toList ++ Rows.shiftEdgesSpec.plain.varTypes Tryd.pinned.checked.prog ++ Tryd.f5.resultTypes.toList).any (Tryd.pinned.checked.prog.veiledRec ·))) = true := by kernel_rfl
theorem q31 : (Rows.shiftEdgesRow.veiledFits Tryd.pinned.checked.prog Tryd.f5.params.toList (Tryd.f5.params.toList ++ Rows.shiftEdgesSpec.plain.varTypes Tryd.pinned.checked.prog ++ Tryd.f5.resultTypes.toList)) = true := by kernel_rfl
theorem closed : joinedFacts Tryd.pinned.checked.prog 5 Tryd.f5 Rows.shiftEdgesSpec Rows.shiftEdgesRow = true := by
  unfold joinedFacts
  exact andT (andT (andT (andT (andT (andT (andT (andT (andT (andT (andT (andT (andT (andT (andT (andT (andT (andT (andT (andT (andT (andT (andT (andT (andT (andT (andT (andT (andT (andT (andT q0 q1) q2) q3) q4) q5) q6) q7) q8) q9) q10) q11) q12) q13) q14) q15) q16) q17) q18) q19) q20) q21) q22) q23) q24) q25) q26) q27) q28) q29) q30) q31

theorem over : Rows.shiftEdgesRow.holds Tryd.pinned (OpenSpec.ofChange Rows.shiftEdgesSpec) :=
  OpenClaim.holds_of_wide 5 Tryd.f5 rfl rfl rfl rfl rfl rfl rfl ⟨rfl, rfl, rfl, rfl, rfl⟩ rfl rfl rfl rfl rfl (by kernel_rfl) Tryd.func5 closed
    (of_decide_eq_true (by kernel_rfl)) (by unfold Func.isWrapper; first | (rw [if_pos (by decide +kernel)]; kernel_rfl) | (rw [if_neg (by decide +kernel)]; exact ⟨rfl, rfl⟩))
    (fun os started H enc _ => lifted os started H enc)

end Go.Proofs.YtjcnhnifageikaaDoor.ShiftEdgesDone
namespace Go.Proofs.YtjcnhnifageikaaDoor
theorem shiftEdges_holds : Rows.ShiftEdgesCardSaid :=
  Claim7.holds_tied_plain_at .later [] [.data] true (true, "f8d4157f06dd8963862172d67266b17a89d1cf3b64faeb26dbf3b9a8338d758a") false
    ShiftEdgesDone.over (fun _ h => by cases h) (by kernel_rfl) (fun _ h => by cases h) shiftEdges_row_tie rfl ⟨rfl, rfl⟩ (by kernel_rfl) rfl
    (fun f fn hf hfn => by
      obtain rfl : f = 5 := (Option.some.inj ((show Tryd.prog.funcNamed "weephole/weepholelaw18.ShiftEdges" = some 5 by kernel_rfl).symm.trans hf)).symm
      obtain rfl : fn = Tryd.f5 := (Option.some.inj (Tryd.func5.symm.trans hfn)).symm
      exact ⟨by kernel_rfl, fun j t ht => by
        rw [Tryd.params5] at ht
        have hm : t ∈ [27] := by simpa using Array.mem_of_getElem? ht
        have hall : ([27].all fun u => !Tryd.prog.wantsStandIn u) = true := by kernel_rfl
        exact (show Tryd.prog.wantsStandIn t = false by simpa using List.all_eq_true.1 hall t hm)⟩)
    (by kernel_rfl)
#print axioms shiftEdges_holds
end Go.Proofs.YtjcnhnifageikaaDoor
