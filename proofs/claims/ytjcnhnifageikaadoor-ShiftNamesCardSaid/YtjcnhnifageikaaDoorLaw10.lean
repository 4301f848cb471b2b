/-
  The walks of the law side's Shows and Small.
-/
import Derived.Test.YtjcnhnifageikaaDoorLaw9
namespace Go.Proofs.YtjcnhnifageikaaDoor
set_option linter.unusedSimpArgs false
set_option linter.unusedVariables false
open Go.RowKit Go.Shelf
attribute [local go_sem] Oper.semAt_some

set_option maxRecDepth 100000 in
set_option maxHeartbeats 3200000 in
theorem shows_any (bb n : Nat) (σ : Nat → Bool) (F : Form) (vin vval vl : Value) (lits : List Int) (want : Nat) (er : Int) (R : Nat → Prop) (w : World) (hC : Circ w bb n σ F vin vval) (hl : Ints R w vl lits) (hok : ∀ x ∈ lits, okLit F.vars x = true)
    (hR : ∀ k, R k → k < w.heap.size) (h64 : lits.length ≤ 64) :
    Calls Tryd.prog 41 #[.agg #[.pointer (some ⟨bb, 0, none⟩), vin, vval], .int .u64 (want : Int), .int .i64 er, vl] w fun e w' => e = .returned (.bool (decide (er = 0) && decide (valB (lits.map (litT σ)) = want))) ∧ Below w.heap.size w w' := by
  obtain ⟨pi, ci, rfl, _, _, _⟩ := hC.inp.opn (insM_len _)
  obtain ⟨pv, cv, rfl, _, _, _⟩ := hC.val.opn (valsM_len _ _)
  have hv := hC.b.vars
  have hcl := hC.b.cls
  have hbA : Below w.heap.size w (w.alloc (.cells #[.pointer (some ⟨bb, 0, none⟩), .slice pi n ci, .slice pv n cv] 30)) := (Below.refl _ _).alloc (Nat.le_refl _) _
  have hcA : (w.alloc (.cells #[.pointer (some ⟨bb, 0, none⟩), .slice pi n ci, .slice pv n cv] 30)).heap[w.heap.size]? = some (.cells #[.pointer (some ⟨bb, 0, none⟩), .slice pi n ci, .slice pv n cv] 30 (0, 0)) := by rw [heap_al, if_pos rfl]
  have hsA : (w.alloc (.cells #[.pointer (some ⟨bb, 0, none⟩), .slice pi n ci, .slice pv n cv] 30)).heap.size = w.heap.size + 1 := by simp only [World.size_alloc]
  have hCA := (hC.below hbA).below ((Below.refl _ _).drew)
  have HG := hid hC.good
  have hn := hC.n
  have HOK := hid hok; have HL := hid hl; have HR := hid hR
  clear hC hok hl hR
  go_enter Tryd.func41, Tryd.ntmps41
  go_wp2_with fail
  generalize hW2 : World.alloc w _ = w2 at *
  clear hW2
  have t0 : w2.drew.cell? ⟨w.heap.size, 0, none⟩ = some (.pointer (some ⟨bb, 0, none⟩)) := by show w2.cell? _ = _; rw [cell_of_cells hcA]; rfl
  have t1 : w2.drew.cell? ⟨w.heap.size, 1, none⟩ = some (.slice pi n ci) := by show w2.cell? _ = _; rw [cell_of_cells hcA]; rfl
  have t2 : w2.drew.cell? ⟨w.heap.size, 2, none⟩ = some (.slice pv n cv) := by show w2.cell? _ = _; rw [cell_of_cells hcA]; rfl
  have HBA := hid hbA; have HCA := hid hCA
  clear hbA hcA hCA
  have hFa : ∀ f, Fence.wide.fn f := fun _ => trivial
  have hS : (fun W' : World => W'.cell? ⟨w.heap.size, 0, none⟩ = some (.pointer (some ⟨bb, 0, none⟩)) ∧ W'.cell? ⟨w.heap.size, 1, none⟩ = some (.slice pi n ci) ∧ W'.cell? ⟨w.heap.size, 2, none⟩ = some (.slice pv n cv)) w2.drew := ⟨t0, t1, t2⟩
  refine (wpIn_wide (n := 9)).1 ?_
  refine wpIn_onlyN ?_
  refine wpIn_region_HJ (fun W' : World => W'.cell? ⟨w.heap.size, 0, none⟩ = some (.pointer (some ⟨bb, 0, none⟩)) ∧ W'.cell? ⟨w.heap.size, 1, none⟩ = some (.slice pi n ci) ∧ W'.cell? ⟨w.heap.size, 2, none⟩ = some (.slice pv n cv)) 10 (by kernel_rfl) ?_
  simp only [List.size_toArray, List.length_cons, List.length_nil, Nat.reduceAdd]
  refine wpHJ_pure (v := ?v0) 0 hFa rfl (by kernel_rfl) (fun _ _ _ h => h.elim) (Or.inl ⟨by rfl, ?y0⟩) (.inr hS) ?r0
  case y0 => (intro w' _; go_simp; try rfl)
  simp only [Act.put, List.getElem_toArray, List.getElem_cons_succ, List.getElem_cons_zero, List.setIfInBounds_toArray, List.set_cons_zero, List.set_cons_succ]
  refine wpHJ_take (v := ?v1) 1 hFa rfl (by kernel_rfl) (fun _ _ _ h => h.elim) (Or.inl ⟨by rfl, ?y1⟩) hS ?r1
  case y1 => (intro w' hS'; obtain ⟨s1, s2, s3⟩ := hS'; go_simp; try rfl)
  simp only [Act.put, List.getElem_toArray, List.getElem_cons_succ, List.getElem_cons_zero, List.setIfInBounds_toArray, List.set_cons_zero, List.set_cons_succ]
  refine wpHJ_take (v := ?v3) 3 hFa rfl (by kernel_rfl) (fun _ _ _ h => h.elim) (Or.inl ⟨by rfl, ?y3⟩) hS ?r3
  case y3 => (intro w' hS'; obtain ⟨s1, s2, s3⟩ := hS'; go_simp; try rfl)
  simp only [Act.put, List.getElem_toArray, List.getElem_cons_succ, List.getElem_cons_zero, List.setIfInBounds_toArray, List.set_cons_zero, List.set_cons_succ]
  refine wpHJ_only 2 (by kernel_rfl) rfl ?_
  intro K hK
  go_simp
  refine (callsIn_wide.2 (formula_any bb F _ HCA.out.b (good_len HG.out))).mono ?_
  rintro e w3 ⟨vc, rfl, hLL, hb3⟩
  obtain ⟨pc, cc, vs, rfl, _, _, _, _, _, _⟩ := hLL.op
  have hb3s : w2.heap.size ≤ w3.heap.size := hb3.size
  have k3 : ∀ {p v}, p.block < w2.heap.size → w2.drew.cell? p = some v → w3.cell? p = some v := fun hp h => (hb3.cell (p := _) hp).trans h
  have hS3 : (fun W' : World => W'.cell? ⟨w.heap.size, 0, none⟩ = some (.pointer (some ⟨bb, 0, none⟩)) ∧ W'.cell? ⟨w.heap.size, 1, none⟩ = some (.slice pi n ci) ∧ W'.cell? ⟨w.heap.size, 2, none⟩ = some (.slice pv n cv)) w3 := ⟨k3 (by show w.heap.size < _; omega) t0, k3 (by show w.heap.size < _; omega) t1, k3 (by show w.heap.size < _; omega) t2⟩
  refine hK _ _ (.inr (.inr hS3)) ?_
  clear hK K
  refine wpHJ_only 4 (by kernel_rfl) rfl ?_
  intro K hK
  go_simp
  have hC3 := HCA.out.below hb3
  refine (callsIn_wide.2 (asm_c hC3)).mono ?_
  rintro e w4 ⟨va, rfl, hva, hb4⟩
  have k4 : ∀ {p v}, p.block < w2.heap.size → w2.drew.cell? p = some v → w4.cell? p = some v := fun hp h => (hb4.cell (p := _) (Nat.lt_of_lt_of_le hp hb3s)).trans (k3 hp h)
  refine hK _ _ (.inr (.inr ⟨k4 (by show w.heap.size < _; omega) t0, k4 (by show w.heap.size < _; omega) t1, k4 (by show w.heap.size < _; omega) t2⟩)) ?_
  clear hK K
  refine wpHJ_only 5 (by kernel_rfl) rfl ?_
  intro K hK
  go_simp
  have hdc := dec_c (w := w4) HG.out hn hv hcl (hLL.keep fun k hk => ⟨Nat.lt_of_lt_of_le hk.2 hb4.size, hb4.block k hk.2⟩) (hva.weaken fun k hk => hk.2)
  refine (callsIn_wide.2 hdc).mono ?_
  rintro e w5 ⟨pk, ck, kk, rfl, hrk, hKO, hb5⟩
  have hb4s : w3.heap.size ≤ w4.heap.size := hb4.size
  have k5 : ∀ {p v}, p.block < w2.heap.size → w2.drew.cell? p = some v → w5.cell? p = some v := fun hp h => (hb5.cell (p := _) (Nat.lt_of_lt_of_le hp (Nat.le_trans hb3s hb4s))).trans (k4 hp h)
  have hS5 : (fun W' : World => W'.cell? ⟨w.heap.size, 0, none⟩ = some (.pointer (some ⟨bb, 0, none⟩)) ∧ W'.cell? ⟨w.heap.size, 1, none⟩ = some (.slice pi n ci) ∧ W'.cell? ⟨w.heap.size, 2, none⟩ = some (.slice pv n cv)) w5 := ⟨k5 (by show w.heap.size < _; omega) t0, k5 (by show w.heap.size < _; omega) t1, k5 (by show w.heap.size < _; omega) t2⟩
  have hbw5 : Below w.heap.size w w5 := ⟨hb5.os.trans (hb4.os.trans (hb3.os.trans HBA.out.os)), hb5.tape.trans (hb4.tape.trans (hb3.tape.trans HBA.out.tape)), hb5.output.trans (hb4.output.trans (hb3.output.trans HBA.out.output)), by have := hb5.size; omega,
    fun j hj => (hb5.block j (by omega)).trans ((hb4.block j (by omega)).trans ((hb3.block j (by show j < w2.heap.size; omega)).trans (HBA.out.block j hj)))⟩
  refine hK _ _ (.inr (.inr hS5)) ?_
  have HBW := hid hbw5; have HRK := hid hrk; have HKO := hid hKO
  clear hK K hdc hb3 hb4 hb5 hva hbw5 hrk hKO k3 k4 k5 t0 t1 t2 hS hS3 hC3 hLL HCA
  refine wpHJ_only 6 (by kernel_rfl) rfl ?_
  intro K hK
  go_simp
  refine hK _ _ (.inr (.inr hS5)) ?_
  clear hK K
  refine wpHJ_pure (v := ?v7) 7 hFa rfl (by kernel_rfl) (fun _ _ _ h => h.elim) (Or.inl ⟨by rfl, ?y7⟩) (.inr hS5) ?r7
  case y7 => (intro w' _; go_simp; try rfl)
  simp only [Act.put, List.getElem_toArray, List.getElem_cons_succ, List.getElem_cons_zero, List.setIfInBounds_toArray, List.set_cons_zero, List.set_cons_succ]
  refine wpHJ_pure (v := ?v8) 8 hFa rfl (by kernel_rfl) (fun _ _ _ h => h.elim) (Or.inl ⟨by rfl, ?y8⟩) (.inr hS5) ?r8
  case y8 => (intro w' _; go_simp; try rfl)
  simp only [Act.put, List.getElem_toArray, List.getElem_cons_succ, List.getElem_cons_zero, List.setIfInBounds_toArray, List.set_cons_zero, List.set_cons_succ]
  refine wpHJ_only 9 (by kernel_rfl) rfl ?_
  intro K hK
  go_simp
  refine hK _ _ (.inr (.inr hS5)) ?_
  clear hK K
  refine wpHJ_only 10 (by kernel_rfl) rfl ?_
  intro K hK
  go_simp
  refine hK _ _ (.inl rfl) ?_
  clear hK K
  refine wpHJ_done (by kernel_rfl) ?_ _
  simp only [onlyN, Exit.then]
  clear hS5
  have hval := value_any pk ck kk σ F vl lits _ (fun _ => True) w5 HKO.out hv HRK.out (HL.out.keep fun k hk => ⟨trivial, HBW.out.block k (HR.out k hk)⟩) HOK.out h64
  have HVAL := hid hval
  clear hval
  generalize hvv : valB (lits.map (litT σ)) = vv at *
  have HVV := hid hvv; clear hvv
  by_cases he : er = 0
  · subst he
    by_cases hw : vv = want
    · obtain rfl : want = vv := hw.symm
      go_wp2_with (go_at_call 22; refine HVAL.out.mono ?_; rintro e w6 ⟨rfl, m, rfl⟩)
      go_ret
      exact ⟨by rw [HVV.out]; simp, below_drewN HBW.out _⟩
    · have hd : ((vv : Int) == (want : Int)) = false := by rw [beq_eq_false_iff_ne]; omega
      go_wp2_with (go_at_call 22; refine HVAL.out.mono ?_; rintro e w6 ⟨rfl, m, rfl⟩)
      go_ret
      exact ⟨by rw [HVV.out]; simp [hw], below_drewN HBW.out _⟩
  · have hd : (er == 0) = false := by rw [beq_eq_false_iff_ne]; exact he
    go_wp2_with (go_at_call 22; refine HVAL.out.mono ?_; rintro e w6 ⟨rfl, m, rfl⟩)
    go_ret
    exact ⟨by rw [HVV.out]; simp [he], below_drewN HBW.out _⟩

theorem circ_put {w3 wf : World} {bb n B A : Nat} {σ : Nat → Bool} {F : Form} {vin vval : Value} (hC : Circ w3 bb n σ F vin vval) (hi : Ints (fun j => Away bb w3 j ∧ B ≤ j) w3 vin (insM n)) (hv : Bools (fun j => Away bb w3 j ∧ B ≤ j) w3 vval (valsM n σ))
    (hA : Away bb w3 A) (hAB : A < B) (hg : w3.grownBy wf (some A)) : Circ wf bb n σ F vin vval ∧ ∀ j, Away bb w3 j → Away bb wf j := by
  obtain ⟨b, m⟩ := hC.b.grown hg (fun r e => by cases e; exact hA)
  have hk : ∀ j, Away bb w3 j ∧ B ≤ j → Away bb wf j ∧ wf.heap[j]? = w3.heap[j]? := fun j hj => ⟨m _ hj.1, hg.block j hj.1.size (fun e => by injection e with e; omega)⟩
  exact ⟨⟨b, hC.good, hi.keep hk, hv.keep hk, hC.n⟩, m⟩

def smallV (x y : Int) : List Bool := [decide (0 < bits BinOp.and IntKind.u64 x 1), decide (0 < bits BinOp.and IntKind.u64 x 2), decide (0 < bits BinOp.and IntKind.u64 x 4), decide (0 < bits BinOp.and IntKind.u64 y 1), decide (0 < bits BinOp.and IntKind.u64 y 2), decide (0 < bits BinOp.and IntKind.u64 y 4)]

set_option maxRecDepth 100000 in
set_option maxHeartbeats 1600000 in
theorem small_any (x y : Int) (w : World) : Calls Tryd.prog 26 #[.int .u64 x, .int .u64 y] w fun e w' => ∃ bb vin vval, e = .returned (.agg #[.pointer (some ⟨bb, 0, none⟩), vin, vval]) ∧
      Circ w' bb 6 (sigB (smallV x y)) ⟨7, [[1]]⟩ vin vval ∧ Below w.heap.size w w' ∧ w.heap.size ≤ bb ∧ ∀ j, j < w.heap.size → Away bb w' j := by
  have hbeg : ∀ w1 p vals, vals.length = 6 → RowR (· < w1.heap.size) w1 p (vals.map Value.bool) → Calls Tryd.prog 27 #[.int .i64 6, .slice p 6 6] w1 fun e w' => ∃ bb vin vval, e = .returned (.tuple #[.agg #[.pointer (some ⟨bb, 0, none⟩), vin, vval], .bool true]) ∧
      Circ w' bb 6 (sigB vals) ⟨6 + 1, [[1]]⟩ vin vval ∧ Below w1.heap.size w1 w' ∧ w1.heap.size ≤ bb ∧ (∀ j, j < w1.heap.size → Away bb w' j) ∧
        Ints (fun j => Away bb w' j ∧ w1.heap.size ≤ j) w' vin (insM 6) ∧ Bools (fun j => Away bb w' j ∧ w1.heap.size ≤ j) w' vval (valsM 6 (sigB vals)) := fun w1 p vals h6 hr =>
    begin_mk 6 (.slice p 6 6) vals (· < w1.heap.size) w1 (by omega) (fun k hk => hk) ⟨p, 6, by rw [List.length_map, h6], by rw [List.length_map, h6]; exact Nat.le_refl _, by unfold maxLen; omega, by rw [List.length_map, h6]; omega, hr⟩
  have HB := hid hbeg
  clear hbeg
  go_enter Tryd.func26, Tryd.ntmps26
  go_wp2_with fail
  have hrow : RowR (· < ((w.alloc (.cells #[.pointer none, .slice none 0 0, .slice none 0 0] 30)).alloc (.cells ((smallV x y).map Value.bool).toArray 4)).heap.size) ((w.alloc (.cells #[.pointer none, .slice none 0 0, .slice none 0 0] 30)).alloc (.cells ((smallV x y).map Value.bool).toArray 4))
      (some ⟨w.heap.size + 1, 0, none⟩) ((smallV x y).map Value.bool) := by
    have := RowR.lit (R := (· < ((w.alloc (.cells #[.pointer none, .slice none 0 0, .slice none 0 0] 30)).alloc (.cells ((smallV x y).map Value.bool).toArray 4)).heap.size)) (w.alloc (.cells #[.pointer none, .slice none 0 0, .slice none 0 0] 30)) ((smallV x y).map Value.bool) 4 (by simp only [World.size_alloc]; omega)
    simp only [World.size_alloc] at this ⊢
    exact this
  refine (HB.out _ _ (smallV x y) rfl hrow).mono ?_
  rintro e w3 ⟨bb, vin, vval, rfl, hC, hb, hbb, hA, hi, hv⟩
  obtain ⟨pi, ci, rfl, _, _, _⟩ := hi.opn (insM_len _)
  obtain ⟨pv, cv, rfl, _, _, _⟩ := hv.opn (valsM_len _ _)
  have hs2 : ((w.alloc (.cells #[.pointer none, .slice none 0 0, .slice none 0 0] 30)).alloc (.cells ((smallV x y).map Value.bool).toArray 4)).heap.size = w.heap.size + 2 := by simp only [World.size_alloc]
  have hcA : ((w.alloc (.cells #[.pointer none, .slice none 0 0, .slice none 0 0] 30)).alloc (.cells ((smallV x y).map Value.bool).toArray 4)).heap[w.heap.size]? = some (.cells #[.pointer none, .slice none 0 0, .slice none 0 0] 30 (0, 0)) := by
    rw [heap_al, if_neg (by simp only [World.size_alloc]; omega), heap_al, if_pos rfl]
  have hbw : Below w.heap.size w ((w.alloc (.cells #[.pointer none, .slice none 0 0, .slice none 0 0] 30)).alloc (.cells ((smallV x y).map Value.bool).toArray 4)) := ((Below.refl _ _).alloc (Nat.le_refl _) _).alloc (by simp only [World.size_alloc]; omega) _
  have hc3 := (hb.block w.heap.size (by rw [hs2]; omega)).trans hcA
  have hbw3 : Below w.heap.size w w3 := ⟨hb.os.trans hbw.os, hb.tape.trans hbw.tape, hb.output.trans hbw.output, Nat.le_trans hbw.size hb.size, fun j hj => (hb.block j (by rw [hs2]; omega)).trans (hbw.block j hj)⟩
  have hAA := hA w.heap.size (by rw [hs2]; omega)
  have hlo := fun j (hj : j < w.heap.size) => hA j (by rw [hs2]; omega)
  have hwbb : w.heap.size ≤ bb := by rw [hs2] at hbb; omega
  have hs3 : w.heap.size + 2 ≤ w3.heap.size := by have := hb.size; rw [hs2] at this; exact this
  rw [hs2] at hi hv
  have hcl := hb.size
  clear hb hA hbb hbw hcA hs2 hcl
  -- the box of the circuit
  have hb4 : Below w3.heap.size w3 (w3.alloc (.cells #[.pointer (some ⟨bb, 0, none⟩), .slice pi 6 ci, .slice pv 6 cv] 30)) := (Below.refl _ _).alloc (Nat.le_refl _) _
  have hf4 := FrB.of_below hC.b hb4
  have hC4 := hC.below hb4
  have hi4 : Ints (fun j => Away bb (w3.alloc (.cells #[.pointer (some ⟨bb, 0, none⟩), .slice pi 6 ci, .slice pv 6 cv] 30)) j ∧ w.heap.size + 2 ≤ j) _ (.slice pi 6 ci) (insM 6) := hi.keep fun j hj => ⟨⟨(hf4.keep j hj.1).1, hj.2⟩, (hf4.keep j hj.1).2⟩
  have hv4 : Bools (fun j => Away bb (w3.alloc (.cells #[.pointer (some ⟨bb, 0, none⟩), .slice pi 6 ci, .slice pv 6 cv] 30)) j ∧ w.heap.size + 2 ≤ j) _ (.slice pv 6 cv) (valsM 6 (sigB (smallV x y))) := hv.keep fun j hj => ⟨⟨(hf4.keep j hj.1).1, hj.2⟩, (hf4.keep j hj.1).2⟩
  have hA4 := (hf4.keep _ hAA).1
  have hlo4 := fun j (hj : j < w.heap.size) => (hf4.keep j (hlo j hj)).1
  have HLO4 := hid hlo4; clear hlo4
  have hc4 := (hf4.keep _ hAA).2.trans hc3
  have hbw4 : Below w.heap.size w (w3.alloc (.cells #[.pointer (some ⟨bb, 0, none⟩), .slice pi 6 ci, .slice pv 6 cv] 30)) := hbw3.alloc (by omega) _
  have a0 : (w3.alloc (.cells #[.pointer (some ⟨bb, 0, none⟩), .slice pi 6 ci, .slice pv 6 cv] 30)).cell? ⟨w.heap.size, 0, none⟩ = some (.pointer none) := by rw [cell_of_cells hc4]; rfl
  have a1 : (w3.alloc (.cells #[.pointer (some ⟨bb, 0, none⟩), .slice pi 6 ci, .slice pv 6 cv] 30)).cell? ⟨w.heap.size, 1, none⟩ = some (.slice none 0 0) := by rw [cell_of_cells hc4]; rfl
  have a2 : (w3.alloc (.cells #[.pointer (some ⟨bb, 0, none⟩), .slice pi 6 ci, .slice pv 6 cv] 30)).cell? ⟨w.heap.size, 2, none⟩ = some (.slice none 0 0) := by rw [cell_of_cells hc4]; rfl
  have f0 : (w3.alloc (.cells #[.pointer (some ⟨bb, 0, none⟩), .slice pi 6 ci, .slice pv 6 cv] 30)).frozen? ⟨w.heap.size, 0, none⟩ = false := frozen_of_cells hc4
  have f1 : (w3.alloc (.cells #[.pointer (some ⟨bb, 0, none⟩), .slice pi 6 ci, .slice pv 6 cv] 30)).frozen? ⟨w.heap.size, 1, none⟩ = false := frozen_of_cells hc4
  have f2 : (w3.alloc (.cells #[.pointer (some ⟨bb, 0, none⟩), .slice pi 6 ci, .slice pv 6 cv] 30)).frozen? ⟨w.heap.size, 2, none⟩ = false := frozen_of_cells hc4
  have hne : w.heap.size ≠ w3.heap.size := by omega
  have HC4 := hid hC4; have HI4 := hid hi4; have HV4 := hid hv4; have HA4 := hid hA4; have HCC4 := hid hc4; have HBW4 := hid hbw4
  clear hC hi hv hC4 hi4 hv4 hA4 hc4 hbw4 hb4 hf4 hAA hc3 hbw3 HB hlo
  go_wp2
  obtain ⟨g1, g2⟩ := setThree (a := .pointer (some ⟨bb, 0, none⟩)) (b := .slice pi 6 ci) (c := .slice pv 6 cv) HCC4.out
  obtain ⟨hCf, hmf⟩ := circ_put HC4.out HI4.out HV4.out HA4.out (by omega) g2
  have hbf : Below w.heap.size w _ := ⟨g2.os.trans HBW4.out.os, g2.tape.trans HBW4.out.tape, g2.output.trans HBW4.out.output, Nat.le_trans HBW4.out.size g2.size, fun j hj => (g2.block j (Nat.lt_of_lt_of_le hj HBW4.out.size) (fun e => by injection e with e; omega)).trans (HBW4.out.block j hj)⟩
  generalize hwf : World.setCell (World.setCell (World.setCell _ _ _) _ _) _ _ = wf at *
  have cf0 : wf.cell? ⟨w.heap.size, 0, none⟩ = some (.pointer (some ⟨bb, 0, none⟩)) := by rw [cell_of_cells g1]; rfl
  have cf1 : wf.cell? ⟨w.heap.size, 1, none⟩ = some (.slice pi 6 ci) := by rw [cell_of_cells g1]; rfl
  have cf2 : wf.cell? ⟨w.heap.size, 2, none⟩ = some (.slice pv 6 cv) := by rw [cell_of_cells g1]; rfl
  exact bodyPost_ret (v := .agg #[.pointer (some ⟨bb, 0, none⟩), .slice pi 6 ci, .slice pv 6 cv]) (by simp [results, Tryd.results26, go_sem, cf0, cf1, cf2]) rfl ⟨bb, _, _, rfl, hCf, hbf, hwbb, fun j hj => hmf _ (HLO4.out j hj)⟩

end Go.Proofs.YtjcnhnifageikaaDoor
