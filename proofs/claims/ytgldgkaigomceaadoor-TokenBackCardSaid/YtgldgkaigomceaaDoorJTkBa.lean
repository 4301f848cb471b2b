/-
  TokenBack: words are read as they were written, line by line, whatever blanks, tabs, comments and empty lines are between them; each stands in the text at its position, and positions increase. For every list of bytes that makes the words (60 at most), every number of words in a line, every list of bytes that makes the noise.
-/
import Derived.Test.YtgldgkaigomceaaDoorOpen
import Derived.Test.YtgldgkaigomceaaDoorTkBa
import Derived.Test.YtgldgkaigomceaaDoorFactA
import Derived.Test.YtgldgkaigomceaaDoorFactB
import Derived.Test.YtgldgkaigomceaaDoorFactC
import Derived.Test.YtgldgkaigomceaaDoorFactD
import Derived.Test.YtgldgkaigomceaaDoorTkBaO
import Derived.Test.YtgldgkaigomceaaDoorTie
import Derived.Test.YtgldgkaigomceaaDoorCards
import Derived.SevenTiedAt
import Derived.Lay
import Derived.LaidOnce
import Derived.MakeChecks
import Derived.HandedShaped
import Derived.ProofKit
namespace Go.Proofs.YtgldgkaigomceaaDoor.TokenBackDone
set_option linter.unusedSimpArgs false
set_option linter.unusedVariables false
open Go.ChangeShapes Go.WideShapes Go.ChangeAt Go.RowKit Go.Joins
open Go.ChangeMaps (open_string shut_string)

theorem own : ownKnob Tryd.prog.godebug = none := by kernel_rfl
theorem laidOut : laidOutB Tryd.prog = true := by kernel_rfl

set_option maxRecDepth 100000 in
theorem lifted (os : Os) (started : os.Started) (H : Type) (enc : TypeId × Value → H) :
    ReturnsInHanded {} Tryd.checked os 3 .any (fun w args => (Rows.tokenBackSpec.pre enc Tryd.prog Tryd.f3 [] false w args ∧ laidMetH Tryd.prog laidBa w) ∧ sizedMet enc Tryd.prog Tryd.f3 (OpenSpec.ofChange Rows.tokenBackSpec) false w args) (Rows.tokenBackSpec.post enc Tryd.prog Tryd.f3 false true false false) := by
  refine handed_and_shaped (C := Tryd.checked) (X := fun w _ => laidMetH Tryd.prog laidBa w) (fun _ _ _ hh h => h.of_heap hh) own started (by kernel_rfl) Tryd.func3
    (ChangeSpec.witness_shaped (enc := enc) (C := Tryd.checked) (os := os) (X := fun w _ => laidMetH Tryd.prog laidBa w) false (World.laidAll Tryd.prog os laidBa) #[.slice none 0 0, .int .i64 0, .slice none 0 0] 8 (World.laidAll_os _ _ _) (World.shaped_of_ZipB (by kernel_rfl) (by kernel_rfl)) (by kernel_rfl) (by kernel_rfl) (by kernel_rfl) (by rw [MakeChecks.laidMetH_plain _ _ _ (by kernel_rfl)]; exact laidMet_laidAll _ (by kernel_rfl) (by kernel_rfl))) ?_
  intro W base args ds gs before hval0 hW hcnd hsz0 hL hsh _
  obtain ⟨m, hm⟩ : ∃ m, W.cell? ⟨1, 0, none⟩ = some (.int .i64 m) := Tryd.laysM145.s1_3 W hsh
  have hsz : (DataW.weightsEach Tryd.prog (Tryd.f3.params.toList ++ Rows.tokenBackSpec.plain.varTypes Tryd.prog) (ds ++ gs)).all (· ≤ reachBytes) = true := hsz0
  clear hsz0
  have hval : ∀ (j : Nat) t v, Tryd.f3.params[j]? = some t → args[j]? = some v → Value.okWide Tryd.prog W .any base t v := hval0
  have hW' := hW
  obtain ⟨p, q, hA0, hV, rfl, hfz, hnd⟩ := hW
  have hA : DataW.TrodAll enc Tryd.prog W 0 (fun _ => true) true Tryd.f3.params.toList args.toList ds p := hA0
  rw [Tryd.params3] at hA hval hsz
  obtain ⟨v0, vs0, d0, ds0, p0, q0, hargs, rfl, rfl, h0, r0⟩ := trodAll_cons hA
  obtain ⟨v1, vs1, d1, ds1, p1, q1, rfl, rfl, rfl, h1, r1⟩ := trodAll_cons r0
  obtain ⟨v2, vs2, d2, ds2, p2, q2, rfl, rfl, rfl, h2, r2⟩ := trodAll_cons r1
  obtain ⟨rfl, rfl, rfl⟩ := trodAll_nil r2
  obtain rfl : args = #[v0, v1, v2] := by cases args; simp_all
  obtain ⟨rfl, rfl⟩ := trodVars_none hV
  obtain ⟨ap0, ln0, cp0, rfl⟩ := okWide_slice Tryd.underlying22 (hval 0 22 v0 rfl rfl)
  have k0 := h0
  have lt0 : ∀ x ∈ p0, x.block < W.heap.size := by obtain ⟨m, hm⟩ := k0; exact DataW.trod_lt m _ _ _ hm
  have hwt0 : ∀ m ∈ d0.weights Tryd.prog 22, m ≤ reachBytes := fun m hm => by
    have := List.all_eq_true.1 hsz m (DataW.weights_mem_each (j := 0) rfl rfl m hm)
    simpa using this
  obtain ⟨bs0, ib0⟩ : ∃ bs, Bys (· < W.heap.size) W (.slice ap0 ln0 cp0) bs := by
    obtain ⟨fuel, hf⟩ := h0
    exact u8s_open hf hwt0
  obtain ⟨i1, rfl, rfl, rfl, w1⟩ := open_int Tryd.underlying3 (hval 1 3 v1 rfl rfl) h1
  obtain ⟨ap2, ln2, cp2, rfl⟩ := okWide_slice Tryd.underlying22 (hval 2 22 v2 rfl rfl)
  have k2 := h2
  have lt2 : ∀ x ∈ p2, x.block < W.heap.size := by obtain ⟨m, hm⟩ := k2; exact DataW.trod_lt m _ _ _ hm
  have hwt2 : ∀ m ∈ d2.weights Tryd.prog 22, m ≤ reachBytes := fun m hm => by
    have := List.all_eq_true.1 hsz m (DataW.weights_mem_each (j := 2) rfl rfl m hm)
    simpa using this
  obtain ⟨bs2, ib2⟩ : ∃ bs, Bys (· < W.heap.size) W (.slice ap2 ln2 cp2) bs := by
    obtain ⟨fuel, hf⟩ := h2
    exact u8s_open hf hwt2
  clear hA0 hval0
  refine (back_walk bs0 (.slice ap0 ln0 cp0) i1 bs2 (.slice ap2 ln2 cp2) m W ib0 (wf_bounds w1) ib2 hm).mono fun e W' ⟨he, bel⟩ => ?_
  subst he
  exact ⟨_, rfl, _, _, _, [], _, [], hW', trodAll_mk1 (shut_bool Tryd.underlying4 _), (trodAll_cons_mk (Below.trod laidOut (by kernel_rfl) (of_decide_eq_true (by kernel_rfl)) k0 bel lt0) (trodAll_cons_mk (shut_int Tryd.underlying3 w1) (trodAll_cons_mk (Below.trod laidOut (by kernel_rfl) (of_decide_eq_true (by kernel_rfl)) k2 bel lt2) trodAll_mk0))), rfl, bel.frame _, fun h => by cases h⟩

set_option maxRecDepth 100000
theorem q0 : (Rows.tokenBackRow.wf (OpenSpec.ofChange Rows.tokenBackSpec)) = true := by kernel_rfl
theorem q1 : (laidOutB Tryd.pinned.checked.prog) = true := factLaid
theorem q2 : (mapsRowed Tryd.pinned.checked.prog) = true := factMaps
theorem q3 : (Tryd.f3.params.all (Tryd.pinned.checked.prog.readableRec ·)) = true := by kernel_rfl
theorem q4 : (namedTie Tryd.pinned.checked.prog Rows.tokenBackRow.named Rows.tokenBackSpec.vars) = true := by kernel_rfl
theorem q5 : ((Rows.tokenBackRow.stops == [])) = true := by kernel_rfl
theorem q6 : ((Tryd.pinned.checked.prog.stops == [])) = true := factStops
theorem q7 : ((Rows.tokenBackRow.knobs == [])) = true := by kernel_rfl
theorem q8 : ((Tryd.pinned.checked.prog.stopKnobs == [])) = true := factKnobs
theorem q9 : ((Rows.tokenBackRow.inPlace == Tryd.pinned.checked.prog.inPlace 3)) = true := by kernel_rfl
theorem q10 : ((Rows.tokenBackRow.unfollowed == Tryd.pinned.checked.prog.unfollowed 3)) = true := by kernel_rfl
theorem q11 : ((Rows.tokenBackRow.recurses == Tryd.pinned.checked.prog.recurses 3)) = true := by kernel_rfl
theorem q12 : ((Rows.tokenBackRow.named == Tryd.pinned.checked.prog.varsNamed 3)) = true := by kernel_rfl
theorem q13 : ((Rows.tokenBackRow.maps == (Tryd.f3.params.toList ++ Rows.tokenBackSpec.plain.varTypes Tryd.pinned.checked.prog).any (Tryd.pinned.checked.prog.mapsRec ·))) = true := by kernel_rfl
theorem q14 : ((Rows.tokenBackRow.ifaces == (Tryd.f3.params.toList ++ Rows.tokenBackSpec.plain.varTypes Tryd.pinned.checked.prog).any (Tryd.pinned.checked.prog.ifacesRec ·))) = true := by kernel_rfl
theorem q15 : ((Rows.tokenBackRow.mapsOut == Tryd.pinned.checked.prog.mapsAmong Tryd.f3.resultTypes.toList)) = true := by kernel_rfl
theorem q16 : ((Rows.tokenBackRow.loops == (Tryd.f3.params.toList ++ Rows.tokenBackSpec.plain.varTypes Tryd.pinned.checked.prog).any (Tryd.pinned.checked.prog.loopsFrom ·))) = true := by kernel_rfl
theorem q17 : ((Rows.tokenBackRow.wideKeys == (Tryd.f3.params.toList ++ Rows.tokenBackSpec.plain.varTypes Tryd.pinned.checked.prog ++ Tryd.f3.resultTypes.toList).any (Tryd.pinned.checked.prog.wideKeysFrom ·))) = true := by kernel_rfl
theorem q18 : (Rows.tokenBackSpec.vars.all (Tryd.pinned.checked.prog.varReadable ·)) = true := by kernel_rfl
theorem q19 : (Tryd.f3.resultTypes.all (fun t => Tryd.pinned.checked.prog.readableRec t && decide (t < Tryd.pinned.checked.prog.types.size))) = true := by kernel_rfl
theorem q20 : ((Rows.tokenBackRow.ifacesOut == Tryd.f3.resultTypes.toList.any (Tryd.pinned.checked.prog.ifacesRec ·))) = true := by kernel_rfl
theorem q21 : ((Rows.tokenBackRow.loopsOut == Tryd.f3.resultTypes.toList.any (Tryd.pinned.checked.prog.loopsFrom ·))) = true := by kernel_rfl
theorem q22 : ((Rows.tokenBackRow.plainKeys == Tryd.pinned.checked.prog.plainKeys)) = true := factKeys
theorem q23 : (Rows.tokenBackRow.shortTexts.isNone) = true := by kernel_rfl
theorem q24 : (Tryd.pinned.checked.prog.stopsHeard) = true := factHeard
theorem q25 : (Tryd.pinned.checked.prog.mayEnter) = true := factA
theorem q26 : ((Rows.tokenBackRow.lifted == Tryd.pinned.checked.prog.liftsFinal)) = true := factB
theorem q27 : ((Tryd.pinned.checked.prog.make == some Rows.tokenBackRow.make)) = true := factC
theorem q28 : ((Rows.tokenBackRow.kinds == (if Rows.tokenBackRow.domain.isEmpty then [] else Tryd.f3.params.toList.map fun t => match Tryd.pinned.checked.prog.underlying t with | some (.int k) => some k | _ => none))) = true := by kernel_rfl
theorem q29 : ((Rows.tokenBackRow.pinned == Rows.tokenBackRow.pinnedBy)) = true := by kernel_rfl
theorem q30 : ((Rows.tokenBackRow.veiled == (Tryd.f3.params.toList ++ Rows.tokenBackSpec.plain.varTypes Tryd.pinned.checked.prog ++ Tryd.f3.resultTypes.toList).any (Tryd.pinned.checked.prog.veiledRec ·))) = true := by kernel_rfl
theorem q31 : (Rows.tokenBackRow.veiledFits Tryd.pinned.checked.prog Tryd.f3.params.toList (Tryd.f3.params.toList ++ Rows.tokenBackSpec.plain.varTypes Tryd.pinned.checked.prog ++ Tryd.f3.resultTypes.toList)) = true := by kernel_rfl
theorem closed : joinedFacts Tryd.pinned.checked.prog 3 Tryd.f3 Rows.tokenBackSpec Rows.tokenBackRow = true := by
  unfold joinedFacts
  exact andT (andT (andT (andT (andT (andT (andT (andT (andT (andT (andT (andT (andT (andT (andT (andT (andT (andT (andT (andT (andT (andT (andT (andT (andT (andT (andT (andT (andT (andT (andT q0 q1) q2) q3) q4) q5) q6) q7) q8) q9) q10) q11) q12) q13) q14) q15) q16) q17) q18) q19) q20) q21) q22) q23) q24) q25) q26) q27) q28) q29) q30) q31

theorem over : Rows.tokenBackRow.holds Tryd.pinned (OpenSpec.ofChange Rows.tokenBackSpec) :=
  OpenClaim.holds_of_wide 3 Tryd.f3 rfl rfl rfl rfl rfl rfl rfl ⟨rfl, rfl, rfl, rfl, rfl⟩ rfl rfl rfl rfl rfl (by kernel_rfl) Tryd.func3 closed
    (of_decide_eq_true (by kernel_rfl)) (by unfold Func.isWrapper; first | (rw [if_pos (by decide +kernel)]; kernel_rfl) | (rw [if_neg (by decide +kernel)]; exact ⟨rfl, rfl⟩))
    (fun os started H enc _ => lifted os started H enc)

end Go.Proofs.YtgldgkaigomceaaDoor.TokenBackDone
namespace Go.Proofs.YtgldgkaigomceaaDoor
theorem tokenBack_holds : Rows.TokenBackCardSaid :=
  Claim7.holds_tied_plain_at .later [] [.data, .pinned] true (true, "1b8fc47f696f358abc904d6736cccf8bdb80b908ee8a59f921e5db765134ed03") false
    TokenBackDone.over (fun _ h => by cases h) (by kernel_rfl) (fun _ h => by cases h) tokenBack_row_tie rfl ⟨rfl, rfl⟩ (by kernel_rfl) rfl
    (fun f fn hf hfn => by
      obtain rfl : f = 3 := (Option.some.inj ((show Tryd.prog.funcNamed "weephole/weepholelaw21.TokenBack" = some 3 by kernel_rfl).symm.trans hf)).symm
      obtain rfl : fn = Tryd.f3 := (Option.some.inj (Tryd.func3.symm.trans hfn)).symm
      exact ⟨by kernel_rfl, fun j t ht => by
        rw [Tryd.params3] at ht
        have hm : t ∈ [22, 3, 22] := by simpa using Array.mem_of_getElem? ht
        have hall : ([22, 3, 22].all fun u => !Tryd.prog.wantsStandIn u) = true := by kernel_rfl
        exact (show Tryd.prog.wantsStandIn t = false by simpa using List.all_eq_true.1 hall t hm)⟩)
    (by kernel_rfl)
#print axioms tokenBack_holds
end Go.Proofs.YtgldgkaigomceaaDoor
