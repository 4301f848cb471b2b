/-
  The walks of the law side's Decided and Shows.
-/
import Derived.Test.YtjcnhnifageikaaDoorLaw7
import Derived.Test.YtjcnhnifageikaaDoorLaw6
import Derived.Test.YtjcnhnifageikaaDoorLaw8
import Derived.Test.YtjcnhnifageikaaDoorDec3
namespace Go.Proofs.YtjcnhnifageikaaDoor
set_option linter.unusedSimpArgs false
set_option linter.unusedVariables false
open Go.RowKit Go.Shelf
attribute [local go_sem] Oper.semAt_some

theorem assume_lits {n : Nat} {σ : Nat → Bool} {F : Form} (hG : Good n σ F) : (∀ x ∈ assumeM (insM n) (valsM n σ), okLit F.vars x = true ∧ litT σ x = true) ∧ (assumeM (insM n) (valsM n σ)).length = n ∧ ∀ v, 2 ≤ v → v ≤ n + 1 → ∃ x ∈ assumeM (insM n) (valsM n σ), x.natAbs = v := by
  have hlen : (assumeM (insM n) (valsM n σ)).length = n := by unfold assumeM; rw [List.length_map, List.length_zip, insM_len, valsM_len]; omega
  have hget : ∀ i (hi : i < n), (assumeM (insM n) (valsM n σ))[i]'(by omega) = if σ (i + 2) then (i : Int) + 2 else -((i : Int) + 2) := fun i hi => by simp [assumeM, insM, valsM]
  refine ⟨fun x hx => ?_, hlen, fun v h1 h2 => ?_⟩
  · obtain ⟨i, hi, rfl⟩ := List.mem_iff_getElem.1 hx
    have hi2 : i < n := by omega
    rw [hget i hi2]
    obtain ⟨a, b⟩ := hG.in_ok hi2
    cases hs : σ (i + 2)
    · simp only [Bool.false_eq_true, if_false]
      exact ⟨ok_neg a, by rw [litT_neg _ (lit_ne a), b, hs]; rfl⟩
    · simp only [if_true]
      exact ⟨a, by rw [b, hs]⟩
  · have hi : v - 2 < n := by omega
    refine ⟨(assumeM (insM n) (valsM n σ))[v - 2]'(by omega), List.getElem_mem _, ?_⟩
    rw [hget _ hi]
    split <;> omega

/-- Assume, over a circuit. -/
theorem asm_c {bb n : Nat} {σ : Nat → Bool} {F : Form} {vin vval : Value} {w : World} (h : Circ w bb n σ F vin vval) :
    Calls Tryd.prog 21 #[.agg #[.pointer (some ⟨bb, 0, none⟩), vin, vval]] w fun e w' => ∃ v, e = .returned v ∧ Ints (New w w') w' v (assumeM (insM n) (valsM n σ)) ∧ Below w.heap.size w w' :=
  assume_any _ _ _ _ _ (Away bb w) w (fun k hk => hk.size) h.inp h.val (by rw [insM_len, valsM_len]) (fun x hx => by
    obtain ⟨i, hi, rfl⟩ := List.mem_iff_getElem.1 hx
    have hi2 : i < n := by rw [insM_len] at hi; exact hi
    have := (h.good.in_ok hi2).1
    have e : (insM n)[i] = (i : Int) + 2 := by simp [insM]
    rw [e]; exact Bd.lit h.b.vars this) (by rw [insM_len]; have := h.n; omega)

/-- Decide, over a circuit's formula. -/
theorem dec_c {n : Nat} {σ : Nat → Bool} {F : Form} {vc va : Value} {w : World} (hG : Good n σ F) (hn : n ≤ 1024) (hv : F.vars ≤ 1048576) (hc : F.cls.length ≤ 1048576) (hLL : LL (· < w.heap.size) w vc F.cls) (hS : Ints (· < w.heap.size) w va (assumeM (insM n) (valsM n σ))) :
    Calls Tryd.prog 19 #[.agg #[.int .i64 F.vars, vc], va] w fun e w' => ∃ pk ck k, e = .returned (.tuple #[.slice pk (F.vars + 1) ck, .bool true]) ∧ RowR (New w w') w' pk (k.map (Value.int .i8)) ∧ KOk σ F k ∧ Below w.heap.size w w' := by
  obtain ⟨h1, h2, h3⟩ := assume_lits hG
  refine (decide_any n σ F _ vc va w hG hv hc hLL hS h1 (by omega) h3).mono ?_
  rintro e w' ⟨v, k, rfl, hk, hl, h0, ha, hb⟩
  obtain ⟨pk, ck, rfl, _, _, _, hr⟩ := hk.op
  rw [hl]
  exact ⟨pk, ck, k, rfl, hr, ⟨hl, h0, ha⟩, hb⟩

theorem good_len {n : Nat} {σ : Nat → Bool} {F : Form} (hG : Good n σ F) : ∀ c ∈ F.cls, c.length ≤ 1048576 := fun c hc => by have := (hG.len c hc).2; omega

set_option maxRecDepth 100000 in
set_option maxHeartbeats 3200000 in
theorem decided_any (bb n : Nat) (σ : Nat → Bool) (F : Form) (vin vval vl vw : Value) (lits : List Int) (R R' : Nat → Prop) (w : World) (hC : Circ w bb n σ F vin vval) (hl : Ints R w vl lits) (hw : Bools R' w vw (lits.map (litT σ))) (hok : ∀ x ∈ lits, okLit F.vars x = true)
    (hR : ∀ k, R k → k < w.heap.size) (hR' : ∀ k, R' k → k < w.heap.size) (hlm : lits.length ≤ 4194304) :
    Calls Tryd.prog 13 #[.agg #[.pointer (some ⟨bb, 0, none⟩), vin, vval], vl, vw] w fun e w' => e = .returned (.bool true) ∧ Below w.heap.size w w' := by
  obtain ⟨pi, ci, rfl, _, _, _⟩ := hC.inp.opn (insM_len _)
  obtain ⟨pv, cv, rfl, _, _, _⟩ := hC.val.opn (valsM_len _ _)
  obtain ⟨pl, cl, rfl, _, _, hrl⟩ := hl.opn rfl
  obtain ⟨pw, cw, rfl, _, _, hrw⟩ := hw.opn (n := lits.length) (by rw [List.length_map])
  have hv := hC.b.vars
  have hcl := hC.b.cls
  have hbA : Below w.heap.size w (w.alloc (.cells #[.pointer (some ⟨bb, 0, none⟩), .slice pi n ci, .slice pv n cv] 30)) := (Below.refl _ _).alloc (Nat.le_refl _) _
  have hcA : (w.alloc (.cells #[.pointer (some ⟨bb, 0, none⟩), .slice pi n ci, .slice pv n cv] 30)).heap[w.heap.size]? = some (.cells #[.pointer (some ⟨bb, 0, none⟩), .slice pi n ci, .slice pv n cv] 30 (0, 0)) := by rw [heap_al, if_pos rfl]
  have hszA : (w.alloc (.cells #[.pointer (some ⟨bb, 0, none⟩), .slice pi n ci, .slice pv n cv] 30)).heap.size = w.heap.size + 1 := by simp only [World.size_alloc]
  have hCA := hC.below hbA
  have hfo := formula_any bb F _ hCA.b (good_len hC.good)
  have HFO := hid hfo; have HBA := hid hbA; have HCA := hid hcA; have HSA := hid hszA; have HC := hid hCA; have HOK := hid hok; have HR := hid hR; have HR' := hid hR'; have HG := hid hC.good
  have hn := hC.n
  clear hfo hbA hcA hszA hCA hC hok hR hR' hl hw
  go_enter Tryd.func13, Tryd.ntmps13
  go_wp2_with (go_at_call 20; refine HFO.out.mono ?_; rintro e w1 ⟨vc, rfl, hLL, hb1⟩; obtain ⟨pc, cc, vs, rfl, hcc, hccm, hc3, hrc, hvl, hvi⟩ := hLL.op; have HLL := hid hLL; have HB1 := hid hb1; clear hLL hb1 hrc hvi hvl)
  have hs1 : w.heap.size + 1 ≤ w1.heap.size := by have := HB1.out.size; rw [HSA.out] at this; exact this
  have hb2 : Below w1.heap.size w1 (w1.alloc (.cells #[.int .i64 F.vars, .slice pc F.cls.length cc] 52)) := (Below.refl _ _).alloc (Nat.le_refl _) _
  have c2 : (w1.alloc (.cells #[.int .i64 F.vars, .slice pc F.cls.length cc] 52)).heap[w1.heap.size]? = some (.cells #[.int .i64 F.vars, .slice pc F.cls.length cc] 52 (0, 0)) := by rw [heap_al, if_pos rfl]
  have hs2 : (w1.alloc (.cells #[.int .i64 F.vars, .slice pc F.cls.length cc] 52)).heap.size = w1.heap.size + 1 := by simp only [World.size_alloc]
  generalize hW2 : World.alloc w1 _ = w2 at *
  clear hW2
  have hb12 : Below w.heap.size w w2 := ⟨hb2.os.trans (HB1.out.os.trans HBA.out.os), hb2.tape.trans (HB1.out.tape.trans HBA.out.tape), hb2.output.trans (HB1.out.output.trans HBA.out.output), by omega, fun j hj => (hb2.block j (by omega)).trans ((HB1.out.block j (by rw [HSA.out]; omega)).trans (HBA.out.block j hj))⟩
  have cc2 : w2.heap[w.heap.size]? = some (.cells #[.pointer (some ⟨bb, 0, none⟩), .slice pi n ci, .slice pv n cv] 30 (0, 0)) := (hb2.block _ (by omega)).trans ((HB1.out.block _ (by rw [HSA.out]; omega)).trans HCA.out)
  have hC2 : Circ w2.drew bb n σ F (.slice pi n ci) (.slice pv n cv) := ((HC.out.below HB1.out).below hb2).below ((Below.refl _ _).drew)
  have hLL2 : LL (· < w2.heap.size) w2 (.slice pc F.cls.length cc) F.cls := HLL.out.keep fun k hk => ⟨by have := hk.2; omega, hb2.block k hk.2⟩
  have s0 : w2.drew.cell? ⟨w1.heap.size, 0, none⟩ = some (.int .i64 F.vars) := by show w2.cell? _ = _; rw [cell_of_cells c2]; rfl
  have s1 : w2.drew.cell? ⟨w1.heap.size, 1, none⟩ = some (.slice pc F.cls.length cc) := by show w2.cell? _ = _; rw [cell_of_cells c2]; rfl
  have t0 : w2.drew.cell? ⟨w.heap.size, 0, none⟩ = some (.pointer (some ⟨bb, 0, none⟩)) := by show w2.cell? _ = _; rw [cell_of_cells cc2]; rfl
  have t1 : w2.drew.cell? ⟨w.heap.size, 1, none⟩ = some (.slice pi n ci) := by show w2.cell? _ = _; rw [cell_of_cells cc2]; rfl
  have t2 : w2.drew.cell? ⟨w.heap.size, 2, none⟩ = some (.slice pv n cv) := by show w2.cell? _ = _; rw [cell_of_cells cc2]; rfl
  have HB12 := hid hb12; have HC2 := hid hC2; have HLL2 := hid hLL2; have C2 := hid c2; have CC2 := hid cc2
  clear hb12 hC2 hLL2 c2 cc2 hb2 HLL HC HFO
  have hFa : ∀ f, Fence.wide.fn f := fun _ => trivial
  have hS : (fun W' : World => (W'.cell? ⟨w1.heap.size, 0, none⟩ = some (.int .i64 F.vars) ∧ W'.cell? ⟨w1.heap.size, 1, none⟩ = some (.slice pc F.cls.length cc)) ∧ W'.cell? ⟨w.heap.size, 0, none⟩ = some (.pointer (some ⟨bb, 0, none⟩)) ∧ W'.cell? ⟨w.heap.size, 1, none⟩ = some (.slice pi n ci) ∧ W'.cell? ⟨w.heap.size, 2, none⟩ = some (.slice pv n cv)) w2.drew := ⟨⟨s0, s1⟩, t0, t1, t2⟩
  refine (wpIn_wide (n := 9)).1 ?_
  refine wpIn_onlyN ?_
  refine wpIn_region_HJ (fun W' : World => (W'.cell? ⟨w1.heap.size, 0, none⟩ = some (.int .i64 F.vars) ∧ W'.cell? ⟨w1.heap.size, 1, none⟩ = some (.slice pc F.cls.length cc)) ∧ W'.cell? ⟨w.heap.size, 0, none⟩ = some (.pointer (some ⟨bb, 0, none⟩)) ∧ W'.cell? ⟨w.heap.size, 1, none⟩ = some (.slice pi n ci) ∧ W'.cell? ⟨w.heap.size, 2, none⟩ = some (.slice pv n cv)) 8 (by kernel_rfl) ?_
  simp only [List.size_toArray, List.length_cons, List.length_nil, Nat.reduceAdd]
  refine wpHJ_take (v := ?v0) 0 hFa rfl (by kernel_rfl) (fun _ _ _ h => h.elim) (Or.inl ⟨by rfl, ?y0⟩) hS ?r0
  case y0 => (intro w' hS'; obtain ⟨⟨s1, s2⟩, s3, s4, s5⟩ := hS'; go_simp; try rfl)
  simp only [Act.put, List.getElem_toArray, List.getElem_cons_succ, List.getElem_cons_zero, List.setIfInBounds_toArray, List.set_cons_zero, List.set_cons_succ]
  refine wpHJ_take (v := ?v1) 1 hFa rfl (by kernel_rfl) (fun _ _ _ h => h.elim) (Or.inl ⟨by rfl, ?y1⟩) hS ?r1
  case y1 => (intro w' hS'; obtain ⟨⟨s1, s2⟩, s3, s4, s5⟩ := hS'; go_simp; try rfl)
  simp only [Act.put, List.getElem_toArray, List.getElem_cons_succ, List.getElem_cons_zero, List.setIfInBounds_toArray, List.set_cons_zero, List.set_cons_succ]
  refine wpHJ_only 2 (by kernel_rfl) rfl ?_
  intro K hK
  go_simp
  refine (callsIn_wide.2 (asm_c HC2.out)).mono ?_
  rintro e w3 ⟨va, rfl, hva, hb3⟩
  have hk3 : ∀ {p v}, p.block < w2.heap.size → w2.drew.cell? p = some v → w3.cell? p = some v := fun hp h => (hb3.cell (p := _) hp).trans h
  refine hK _ _ (.inr (.inr ⟨⟨hk3 (by show w1.heap.size < _; omega) s0, hk3 (by show w1.heap.size < _; omega) s1⟩, hk3 (by show w.heap.size < _; omega) t0, hk3 (by show w.heap.size < _; omega) t1, hk3 (by show w.heap.size < _; omega) t2⟩)) ?_
  clear hK K
  refine wpHJ_only 3 (by kernel_rfl) rfl ?_
  intro K hK
  go_simp
  have hdc := dec_c (w := w3) HG.out hn hv hcl (HLL2.out.keep fun k hk => ⟨Nat.lt_of_lt_of_le hk hb3.size, hb3.block k hk⟩) (hva.weaken fun k hk => hk.2)
  refine (callsIn_wide.2 hdc).mono ?_
  rintro e w4 ⟨pk, ck, kk, rfl, hrk, hKO, hb4⟩
  have h23 : w2.heap.size ≤ w3.heap.size := hb3.size
  have hk4 : ∀ {p v}, p.block < w2.heap.size → w2.drew.cell? p = some v → w4.cell? p = some v := fun hp h => (hb4.cell (p := _) (Nat.lt_of_lt_of_le hp h23)).trans (hk3 hp h)
  have hbw4 : Below w.heap.size w w4 := ⟨hb4.os.trans (hb3.os.trans HB12.out.os), hb4.tape.trans (hb3.tape.trans HB12.out.tape), hb4.output.trans (hb3.output.trans HB12.out.output), by have := hb4.size; omega, fun j hj => (hb4.block j (by omega)).trans ((hb3.block j (by show j < w2.heap.size; omega)).trans (HB12.out.block j hj))⟩
  have s0' := hk4 (by show w1.heap.size < _; omega) s0
  have s1' := hk4 (by show w1.heap.size < _; omega) s1
  have t0' := hk4 (by show w.heap.size < _; omega) t0
  have t1' := hk4 (by show w.heap.size < _; omega) t1
  have t2' := hk4 (by show w.heap.size < _; omega) t2
  have hS4 : (fun W' : World => (W'.cell? ⟨w1.heap.size, 0, none⟩ = some (.int .i64 F.vars) ∧ W'.cell? ⟨w1.heap.size, 1, none⟩ = some (.slice pc F.cls.length cc)) ∧ W'.cell? ⟨w.heap.size, 0, none⟩ = some (.pointer (some ⟨bb, 0, none⟩)) ∧ W'.cell? ⟨w.heap.size, 1, none⟩ = some (.slice pi n ci) ∧ W'.cell? ⟨w.heap.size, 2, none⟩ = some (.slice pv n cv)) w4 := ⟨⟨s0', s1'⟩, t0', t1', t2'⟩
  refine hK _ _ (.inr (.inr hS4)) ?_
  have HBW4 := hid hbw4; have HRK := hid hrk; have HKO := hid hKO
  clear hK K hdc hb3 hb4 hva hbw4 hrk hKO hk3 hk4 s0 s1 t0 t1 t2 s1' t0' t1' t2' hS HC2 HLL2
  refine wpHJ_only 4 (by kernel_rfl) rfl ?_
  intro K hK
  go_simp
  refine hK _ _ (.inr (.inr hS4)) ?_
  clear hK K
  refine wpHJ_pure (v := ?v5) 5 hFa rfl (by kernel_rfl) (fun _ _ _ h => h.elim) (Or.inl ⟨by rfl, ?y5⟩) (.inr hS4) ?r5
  case y5 => (intro w' _; go_simp; try rfl)
  simp only [Act.put, List.getElem_toArray, List.getElem_cons_succ, List.getElem_cons_zero, List.setIfInBounds_toArray, List.set_cons_zero, List.set_cons_succ]
  refine wpHJ_pure (v := ?v6) 6 hFa rfl (by kernel_rfl) (fun _ _ _ h => h.elim) (Or.inl ⟨by rfl, ?y6⟩) (.inr hS4) ?r6
  case y6 => (intro w' _; go_simp; try rfl)
  simp only [Act.put, List.getElem_toArray, List.getElem_cons_succ, List.getElem_cons_zero, List.setIfInBounds_toArray, List.set_cons_zero, List.set_cons_succ]
  refine wpHJ_only 7 (by kernel_rfl) rfl ?_
  intro K hK
  go_simp
  refine hK _ _ (.inr (.inr hS4)) ?_
  clear hK K
  refine wpHJ_only 8 (by kernel_rfl) rfl ?_
  intro K hK
  go_simp
  refine hK _ _ (.inl rfl) ?_
  clear hK K
  refine wpHJ_done (by kernel_rfl) ?_ _
  simp only [onlyN, Exit.then]
  have hq1 : (((F.vars + 1 : Nat) : Int) != (F.vars : Int) + 1) = false := by simp
  clear hS4
  go_wp2_with fail
  go_loopw [10] (fun i wr => ∃ (j m : Nat), 1 ≤ j ∧ j ≤ F.vars + 1 ∧ i = .int .i64 j ∧ wr = w4.drewN m) (fun i _ => F.vars + 1 - (intOf i).toNat)
  case atStart => exact ⟨1, 0, by omega, by omega, rfl, rfl⟩
  case round =>
    obtain ⟨j, m, hj1, hj, rfl, rfl⟩ := hrel
    have cv0 : (w4.drewN m).cell? ⟨w1.heap.size, 0, none⟩ = some (.int .i64 F.vars) := s0'
    by_cases hlt : j ≤ F.vars
    · have hox : okLit F.vars (j : Int) = true := okLit_spec.2 (by omega)
      have his := is_any pk ck kk (j : Int) _ (w4.drewN m) (Bd.lit hv hox) (by rw [HKO.out.len]; omega) (HRK.out.keep (w' := w4.drewN m) fun q hq => ⟨hq, rfl⟩)
      rw [HKO.out.len, HKO.out.is hox] at his
      have HIS := hid his
      clear his hox
      go_wp2_with (go_at_call 33; refine HIS.out.mono ?_; rintro e w5 ⟨rfl, m1, rfl⟩)
      go_roundw
      case rel => exact ⟨j + 1, m + m1, by omega, by omega, by go_num, rfl⟩
      case measure => simp [intOf]; omega
    · go_wp2_with fail
      go_loopw [13] (fun i wr => ∃ (q m : Nat), q ≤ lits.length ∧ i = .int .i64 q ∧ wr = w4.drewN m) (fun i _ => lits.length - (intOf i).toNat)
      case atStart => exact ⟨0, m, Nat.zero_le _, rfl, rfl⟩
      case round =>
        obtain ⟨q, m, hq, rfl, rfl⟩ := hrel
        by_cases hlq : q < lits.length
        · obtain ⟨b1, o1, rfl, hR1, hcc1⟩ := hrl.atI q hlq
          obtain ⟨b2, o2, rfl, hR2, hcc2⟩ := hrw.atB q (by rw [List.length_map]; exact hlq)
          have d1 : w4.cell? ⟨b1, o1 + q, none⟩ = some (.int .i64 lits[q]) := (HBW4.out.cell (p := ⟨b1, o1 + q, none⟩) (HR.out b1 hR1)).trans (hcc1 q hlq)
          have d2 : w4.cell? ⟨b2, o2 + q, none⟩ = some (.bool (litT σ lits[q])) := by
            have := (HBW4.out.cell (p := ⟨b2, o2 + q, none⟩) (HR'.out b2 hR2)).trans (hcc2 q (by rw [List.length_map]; exact hlq))
            rw [List.getElem_map] at this; exact this
          have hox := HOK.out _ (List.getElem_mem hlq)
          have his := is_any pk ck kk lits[q] _ (w4.drewN m) (Bd.lit hv hox) (by rw [HKO.out.len]; omega) (HRK.out.keep (w' := w4.drewN m) fun q hq => ⟨hq, rfl⟩)
          rw [HKO.out.len, HKO.out.is hox] at his
          have HIS := hid his
          clear his hox hcc1 hcc2
          generalize litT σ lits[q] = bx at *
          generalize lits[q] = x at *
          cases bx
          all_goals
            have HIS := HIS
            go_wp2_with (go_at_call 33; refine HIS.out.mono ?_; rintro e w5 ⟨rfl, m1, rfl⟩)
            go_roundw
            case rel => exact ⟨q + 1, m + m1, by omega, by go_num, rfl⟩
            case measure => simp [intOf]; omega
        · obtain rfl : q = lits.length := by omega
          go_wp2
          go_ret
          exact ⟨rfl, below_drewN HBW4.out _⟩

end Go.Proofs.YtjcnhnifageikaaDoor
