/-
  The law MuldivShift returns true for every input (any words of at most 18 literals, any place): the product with one literal that holds is the word moved up, quotient and rest are the word moved down and what falls out. No conditions.
-/
import Derived.Test.YtngimdbjcelkeaaOpen
import Derived.Test.YtngimdbjcelkeaaMShift
import Derived.Test.YtngimdbjcelkeaaFactA
import Derived.Test.YtngimdbjcelkeaaFactB
import Derived.Test.YtngimdbjcelkeaaFactC
import Derived.Test.YtngimdbjcelkeaaFactD
namespace Go.Proofs.Ytngimdbjcelkeaa.MuldivShiftDone
set_option linter.unusedSimpArgs false
set_option linter.unusedVariables false
open Go.ChangeShapes Go.WideShapes Go.ChangeAt Go.RowKit Go.Joins

theorem own : ownKnob Try.prog.godebug = none := by kernel_rfl
theorem laidOut : laidOutB Try.prog = true := by kernel_rfl
theorem cellsW : Try.prog.cellsOf 25 = 4 := by kernel_rfl

set_option maxRecDepth 100000 in
theorem lifted (os : Os) (started : os.Started) (H : Type) (enc : TypeId × Value → H) :
    ReturnsInHanded {} Try.checked os 14 .any (Rows.muldivShiftSpec.pre6 enc Try.prog Try.f14 Rows.muldivShiftRow.domain false) (Rows.muldivShiftSpec.post enc Try.prog Try.f14 false true false false) := by
  refine returnsInHanded_of_change_sized (C := Try.checked) own started (by kernel_rfl) Try.func14
    (ChangeSpec.witness6 (enc := enc) (C := Try.checked) false ⟨#[], #[.agg #[.int .i64 0, .slice none 0 0, .slice none 0 0, .slice none 0 0], .int .i64 0], []⟩ 8 (by kernel_rfl) (by kernel_rfl) (by kernel_rfl) (by kernel_rfl)) ?_
  intro W base args ds gs before hval0 hW hcnd hsz0 _
  have hsz : (DataW.weightsEach Try.prog (Try.f14.params.toList ++ Rows.muldivShiftSpec.plain.varTypes Try.prog) (ds ++ gs)).all (· ≤ reachBytes) = true := hsz0
  clear hsz0
  have hval : ∀ (j : Nat) t v, Try.f14.params[j]? = some t → args[j]? = some v → Value.okWide Try.prog W .any base t v := hval0
  have hW' := hW
  obtain ⟨p, q, hA0, hV, rfl, hfz, hnd⟩ := hW
  have hA : DataW.TrodAll enc Try.prog W 0 (fun _ => true) true Try.f14.params.toList args.toList ds p := hA0
  rw [Try.params14] at hA hval hsz
  obtain ⟨v0, vs0, d0, ds0, p0, q0, hargs, rfl, rfl, h0, r0⟩ := trodAll_cons hA
  obtain ⟨v1, vs1, d1, ds1, p1, q1, rfl, rfl, rfl, h1, r1⟩ := trodAll_cons r0
  obtain ⟨rfl, rfl, rfl⟩ := trodAll_nil r1
  obtain rfl : args = #[v0, v1] := by cases args; simp_all
  obtain ⟨rfl, rfl⟩ := trodVars_none hV
  have k0 := h0
  have lt0 : ∀ x ∈ p0, x.block < W.heap.size := by obtain ⟨m, hm⟩ := k0; exact DataW.trod_lt m _ _ _ hm
  have hwt0 : ∀ m ∈ d0.weights Try.prog 25, m ≤ reachBytes := fun m hm => by
    have := List.all_eq_true.1 hsz m (DataW.weights_mem_each (j := 0) rfl rfl m hm)
    simpa using this
  obtain ⟨c0, c1, c2, c3, y0, y1, y2, y3, n, rfl, rfl, rfl, hy0, hy1, hy2, hy3⟩ := open_agg4 Try.underlying25 (by kernel_rfl) cellsW (hval 0 25 v0 rfl rfl) h0
  obtain ⟨z, e0, rfl, wz⟩ := DataW.trod_int Try.underlying3 hy0
  simp at e0
  subst e0
  obtain ⟨i1, rfl, rfl, rfl, w1⟩ := open_int Try.underlying3 (hval 1 3 v1 rfl rfl) h1
  have hw1 : ∀ m ∈ y1.1.weights Try.prog 22, m ≤ reachBytes := fun m hm => hwt0 m (by simp [DataW.weights, Try.underlying25, DataW.weightsEach, hm])
  have hw2 : ∀ m ∈ y2.1.weights Try.prog 23, m ≤ reachBytes := fun m hm => hwt0 m (by simp [DataW.weights, Try.underlying25, DataW.weightsEach, hm])
  have hw3 : ∀ m ∈ y3.1.weights Try.prog 23, m ≤ reachBytes := fun m hm => hwt0 m (by simp [DataW.weights, Try.underlying25, DataW.weightsEach, hm])
  obtain ⟨vals, ib⟩ := bools_open hy1 hw1
  obtain ⟨lx, ix, bx⟩ := ints_open hy2 hw2
  obtain ⟨ly, iy, biy⟩ := ints_open hy3 hw3
  clear hA0 hval0
  refine (shift_walk z i1 vals lx ly c1 c2 c3 W (wf_bounds wz) (wf_bounds w1) ib ix iy bx biy).mono fun e W' ⟨he, bel⟩ => ?_
  subst he
  exact ⟨_, rfl, _, _, _, [], _, [], hW', trodAll_mk1 (shut_bool Try.underlying4 _), (trodAll_cons_mk (Below.trod laidOut (by kernel_rfl) (of_decide_eq_true (by kernel_rfl)) k0 bel lt0) (trodAll_cons_mk (shut_int Try.underlying3 w1) trodAll_mk0)), rfl, bel.frame _, fun h => by cases h⟩

set_option maxRecDepth 100000
theorem q0 : (Rows.muldivShiftRow.wf (OpenSpec.ofChange Rows.muldivShiftSpec)) = true := by kernel_rfl
theorem q1 : (laidOutB Try.pinned.checked.prog) = true := factLaid
theorem q2 : (mapsRowed Try.pinned.checked.prog) = true := factMaps
theorem q3 : (Try.f14.params.all (Try.pinned.checked.prog.readableRec ·)) = true := by kernel_rfl
theorem q4 : (namedTie Try.pinned.checked.prog Rows.muldivShiftRow.named Rows.muldivShiftSpec.vars) = true := by kernel_rfl
theorem q5 : ((Rows.muldivShiftRow.stops == [])) = true := by kernel_rfl
theorem q6 : ((Try.pinned.checked.prog.stops == [])) = true := factStops
theorem q7 : ((Rows.muldivShiftRow.knobs == [])) = true := by kernel_rfl
theorem q8 : ((Try.pinned.checked.prog.stopKnobs == [])) = true := factKnobs
theorem q9 : ((Rows.muldivShiftRow.inPlace == Try.pinned.checked.prog.inPlace 14)) = true := by kernel_rfl
theorem q10 : ((Rows.muldivShiftRow.unfollowed == Try.pinned.checked.prog.unfollowed 14)) = true := by kernel_rfl
theorem q11 : ((Rows.muldivShiftRow.recurses == Try.pinned.checked.prog.recurses 14)) = true := by kernel_rfl
theorem q12 : ((Rows.muldivShiftRow.named == Try.pinned.checked.prog.varsNamed 14)) = true := by kernel_rfl
theorem q13 : ((Rows.muldivShiftRow.maps == (Try.f14.params.toList ++ Rows.muldivShiftSpec.plain.varTypes Try.pinned.checked.prog).any (Try.pinned.checked.prog.mapsRec ·))) = true := by kernel_rfl
theorem q14 : ((Rows.muldivShiftRow.ifaces == (Try.f14.params.toList ++ Rows.muldivShiftSpec.plain.varTypes Try.pinned.checked.prog).any (Try.pinned.checked.prog.ifacesRec ·))) = true := by kernel_rfl
theorem q15 : ((Rows.muldivShiftRow.mapsOut == Try.pinned.checked.prog.mapsAmong Try.f14.resultTypes.toList)) = true := by kernel_rfl
theorem q16 : ((Rows.muldivShiftRow.loops == (Try.f14.params.toList ++ Rows.muldivShiftSpec.plain.varTypes Try.pinned.checked.prog).any (Try.pinned.checked.prog.loopsFrom ·))) = true := by kernel_rfl
theorem q17 : ((Rows.muldivShiftRow.wideKeys == (Try.f14.params.toList ++ Rows.muldivShiftSpec.plain.varTypes Try.pinned.checked.prog ++ Try.f14.resultTypes.toList).any (Try.pinned.checked.prog.wideKeysFrom ·))) = true := by kernel_rfl
theorem q18 : (Rows.muldivShiftSpec.vars.all (Try.pinned.checked.prog.varReadable ·)) = true := by kernel_rfl
theorem q19 : (Try.f14.resultTypes.all (fun t => Try.pinned.checked.prog.readableRec t && decide (t < Try.pinned.checked.prog.types.size))) = true := by kernel_rfl
theorem q20 : ((Rows.muldivShiftRow.ifacesOut == Try.f14.resultTypes.toList.any (Try.pinned.checked.prog.ifacesRec ·))) = true := by kernel_rfl
theorem q21 : ((Rows.muldivShiftRow.loopsOut == Try.f14.resultTypes.toList.any (Try.pinned.checked.prog.loopsFrom ·))) = true := by kernel_rfl
theorem q22 : ((Rows.muldivShiftRow.plainKeys == Try.pinned.checked.prog.plainKeys)) = true := factKeys
theorem q23 : (Rows.muldivShiftRow.shortTexts.isNone) = true := by kernel_rfl
theorem q24 : (Try.pinned.checked.prog.stopsHeard) = true := factHeard
theorem q25 : (Try.pinned.checked.prog.mayEnter) = true := factA
theorem q26 : ((Rows.muldivShiftRow.lifted == Try.pinned.checked.prog.liftsFinal)) = true := factB
theorem q27 : ((Try.pinned.checked.prog.make == some Rows.muldivShiftRow.make)) = true := factC
theorem q28 : ((Rows.muldivShiftRow.kinds == (if Rows.muldivShiftRow.domain.isEmpty then [] else Try.f14.params.toList.map fun t => match Try.pinned.checked.prog.underlying t with | some (.int k) => some k | _ => none))) = true := by kernel_rfl
theorem q29 : ((Rows.muldivShiftRow.pinned == Rows.muldivShiftRow.pinnedBy)) = true := by kernel_rfl
theorem q30 : ((Rows.muldivShiftRow.veiled == (Try.f14.params.toList ++ Rows.muldivShiftSpec.plain.varTypes Try.pinned.checked.prog ++ Try.f14.resultTypes.toList).any (Try.pinned.checked.prog.veiledRec ·))) = true := by kernel_rfl
theorem q31 : (Rows.muldivShiftRow.veiledFits Try.pinned.checked.prog Try.f14.params.toList (Try.f14.params.toList ++ Rows.muldivShiftSpec.plain.varTypes Try.pinned.checked.prog ++ Try.f14.resultTypes.toList)) = true := by kernel_rfl
theorem closed : joinedFacts Try.pinned.checked.prog 14 Try.f14 Rows.muldivShiftSpec Rows.muldivShiftRow = true := by
  unfold joinedFacts
  exact andT (andT (andT (andT (andT (andT (andT (andT (andT (andT (andT (andT (andT (andT (andT (andT (andT (andT (andT (andT (andT (andT (andT (andT (andT (andT (andT (andT (andT (andT (andT q0 q1) q2) q3) q4) q5) q6) q7) q8) q9) q10) q11) q12) q13) q14) q15) q16) q17) q18) q19) q20) q21) q22) q23) q24) q25) q26) q27) q28) q29) q30) q31

theorem over : Rows.muldivShiftRow.holds Try.pinned (OpenSpec.ofChange Rows.muldivShiftSpec) :=
  OpenClaim.holds_of_wide 14 Try.f14 rfl rfl rfl rfl rfl rfl rfl ⟨rfl, rfl, rfl, rfl, rfl⟩ rfl rfl rfl rfl rfl (by kernel_rfl) Try.func14 closed
    (of_decide_eq_true (by kernel_rfl)) (by unfold Func.isWrapper; first | (rw [if_pos (by decide +kernel)]; kernel_rfl) | (rw [if_neg (by decide +kernel)]; exact ⟨rfl, rfl⟩))
    (fun os started H enc _ => lifted os started H enc)

end Go.Proofs.Ytngimdbjcelkeaa.MuldivShiftDone
namespace Go.Proofs.Ytngimdbjcelkeaa
theorem muldivShift_holds : Rows.MuldivShiftSaid := MuldivShiftDone.over
#print axioms muldivShift_holds
end Go.Proofs.Ytngimdbjcelkeaa
