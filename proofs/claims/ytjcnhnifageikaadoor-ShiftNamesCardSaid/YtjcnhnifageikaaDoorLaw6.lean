/-
  The walk of the law side's Begin.
-/
import Derived.Test.YtjcnhnifageikaaDoorLaw5
namespace Go.Proofs.YtjcnhnifageikaaDoor
set_option linter.unusedSimpArgs false
set_option linter.unusedVariables false
open Go.RowKit Go.Shelf
attribute [local go_sem] Oper.semAt_some

set_option maxHeartbeats 3200000 in
theorem begin_mk (n : Nat) (vv : Value) (vals : List Bool) (R : Nat → Prop) (w : World) (hn : n ≤ 1024) (hR : ∀ k, R k → k < w.heap.size) (hv : Bools R w vv vals) :
    Calls Tryd.prog 27 #[.int .i64 (n : Int), vv] w fun e w' => ∃ bb vin vval, e = .returned (.tuple #[.agg #[.pointer (some ⟨bb, 0, none⟩), vin, vval], .bool true]) ∧
      Circ w' bb n (sigB vals) ⟨n + 1, [[1]]⟩ vin vval ∧ Below w.heap.size w w' ∧ w.heap.size ≤ bb ∧ (∀ j, j < w.heap.size → Away bb w' j) ∧
        Ints (fun j => Away bb w' j ∧ w.heap.size ≤ j) w' vin (insM n) ∧ Bools (fun j => Away bb w' j ∧ w.heap.size ≤ j) w' vval (valsM n (sigB vals)) := by
  obtain ⟨pv, cv, rfl, _, _, hv3, hrv⟩ := hv.op
  have hnew := new_any (w.alloc (.cells #[.pointer none, .slice none 0 0, .slice none 0 0] 30))
  have hA0 : (w.alloc (.cells #[.pointer none, .slice none 0 0, .slice none 0 0] 30)).heap[w.heap.size]? = some (.cells #[.pointer none, .slice none 0 0, .slice none 0 0] 30 (0, 0)) := by rw [heap_al, if_pos rfl]
  have hbelA : Below w.heap.size w (w.alloc (.cells #[.pointer none, .slice none 0 0, .slice none 0 0] 30)) := (Below.refl _ _).alloc (Nat.le_refl _) _
  have hszA : (w.alloc (.cells #[.pointer none, .slice none 0 0, .slice none 0 0] 30)).heap.size = w.heap.size + 1 := by simp only [World.size_alloc]
  have HNEW := hid hnew; have HA0 := hid hA0; have HBA := hid hbelA; have HSA := hid hszA; have HR := hid hR
  clear hnew hA0 hbelA hszA hR hv
  go_enter Tryd.func27, Tryd.ntmps27
  go_wp2_with (go_at_call 46; refine HNEW.out.mono ?_; rintro e w1 ⟨bb, rfl, hbb, hB1, hf1⟩; have HBB := hid hbb; have HB1 := hid hB1; have HF1 := hid hf1; clear hbb hB1 hf1)
  -- the loop's start
  have hbbl : w.heap.size + 1 ≤ bb := by have := HBB.out; rw [HSA.out] at this; exact this
  have h0 : BegI bb w.heap.size w1.heap.size w vals 0 (.slice none 0 0) (.slice none 0 0) (w1.alloc (.cells #[.pointer (some ⟨bb, 0, none⟩), .slice none 0 0, .slice none 0 0] 30)) := by
    have hb : Below w1.heap.size w1 (w1.alloc (.cells #[.pointer (some ⟨bb, 0, none⟩), .slice none 0 0, .slice none 0 0] 30)) := (Below.refl _ _).alloc (Nat.le_refl _) _
    have kA := HF1.out.keep w.heap.size (by show w.heap.size < _; rw [HSA.out]; omega)
    have hs1 := HF1.out.size
    rw [HSA.out] at hs1
    have fW := FrB.of_below HB1.out hb
    refine ⟨HB1.out.below hb, (fW.keep _ kA.1).1, ((fW.keep _ kA.1).2.trans kA.2).trans HA0.out, HB1.out.away_new hb (Nat.le_refl _) (by simp), by rw [heap_al, if_pos rfl], ⟨World.ownsRow_nil _ _ _ _, World.ownsRow_nil _ _ _ _, fun j e => by cases e⟩, (fun j e => by cases e), (fun j e => by cases e), by simp, ?_⟩
    exact ⟨HF1.out.os.trans HBA.out.os, HF1.out.tape.trans HBA.out.tape, HF1.out.output.trans HBA.out.output, by simp only [World.size_alloc]; omega, fun j hj => by
      have kj := HF1.out.keep j (by show j < _; rw [HSA.out]; omega)
      exact ((fW.keep j kj.1).2.trans kj.2).trans (HBA.out.block j hj)⟩
  have hlow : ∀ j, j < w.heap.size → Away bb (w1.alloc (.cells #[.pointer (some ⟨bb, 0, none⟩), .slice none 0 0, .slice none 0 0] 30)) j := fun j hj => by
    have hb : Below w1.heap.size w1 (w1.alloc (.cells #[.pointer (some ⟨bb, 0, none⟩), .slice none 0 0, .slice none 0 0] 30)) := (Below.refl _ _).alloc (Nat.le_refl _) _
    exact ((FrB.of_below HB1.out hb).keep j (HF1.out.keep j (by show j < _; rw [HSA.out]; omega)).1).1
  have hAC : w.heap.size < w1.heap.size := by have := HF1.out.size; rw [HSA.out] at this; omega
  have H0 := hid h0; have HLOW := hid hlow
  clear h0 hlow
  go_loopw [7] (fun i wr => ∃ (k : Nat) (vin vval : Value), k ≤ n ∧ i = .int .i64 k ∧ BegI bb w.heap.size w1.heap.size w vals k vin vval wr ∧ ∀ j, j < w.heap.size → Away bb wr j) (fun i _ => n - (intOf i).toNat)
  case atStart => exact ⟨0, _, _, Nat.zero_le _, rfl, H0.out, HLOW.out⟩
  case round =>
    obtain ⟨k, vin, vval, hk, rfl, hI, hlo⟩ := hrel
    obtain ⟨wo, rfl⟩ : ∃ wo : World, wo = wr := ⟨_, rfl⟩
    obtain ⟨p1, c1, rfl⟩ := own_slice hI.t.o1
    obtain ⟨p2, c2, rfl⟩ := own_slice hI.t.o2
    have e0 : wo.cell? ⟨w1.heap.size, 0, none⟩ = some (.pointer (some ⟨bb, 0, none⟩)) := by rw [cell_of_cells hI.cC]; rfl
    have e1 : wo.cell? ⟨w1.heap.size, 1, none⟩ = some (.slice p1 k c1) := by rw [cell_of_cells hI.cC]; rfl
    have e2 : wo.cell? ⟨w1.heap.size, 2, none⟩ = some (.slice p2 k c2) := by rw [cell_of_cells hI.cC]; rfl
    by_cases hlt : k < n
    · have hfresh := fresh_any bb ⟨k + 1, [[1]]⟩ wo hI.b
      have hfm : freshM ⟨k + 1, [[1]]⟩ = ((k : Int) + 2, 0, ⟨k + 2, [[1]]⟩) := by
        unfold freshM; rw [if_neg (by show ¬ (k + 1 = 1048576); omega)]
        exact Prod.ext (by show ((k + 1 : Nat) : Int) + 1 = _; omega) rfl
      rw [hfm] at hfresh
      have HFR := hid hfresh; have HI := hid hI; have HLO := hid hlo
      clear hfresh hfm hI hlo
      have hCl := HI.out.sz
      go_wp2_with (first
        | (go_at_call 47; refine HFR.out.mono ?_; rintro e w2 ⟨rfl, hB2, hf2⟩; have HX := hid (HI.out.fresh (by omega) hf2 hB2 HLO.out); have HLO2 := hid (fun j hj => (hf2.keep j (HLO.out j hj)).1); clear hB2 hf2; have e1' : w2.cell? ⟨w1.heap.size, 1, none⟩ = some (.slice p1 k c1) := (by rw [cell_of_cells HX.out.2.2.2.2.1]; rfl))
        | (at_builtin; refine wpList_app _ rfl (.tmp 31) (.tmp 33) 23 rfl (w1.heap.size + 1) 3 (.int .i64 0) 8 Tryd.underlying23 info_int rfl _ k _ rfl (HX.out.2.2.2.2.2.1.o1.alloc _) (some ⟨w2.heap.size, 0, none⟩) 1 1 [.int .i64 ((k : Int) + 2)] rfl rfl (RowR.one _ _ _) (by simp [Value.oneCell']) (by omega) (by unfold maxLen; omega) (by have := HX.out.2.2.2.2.2.2.2.2.1; rw [World.size_alloc]; omega) ?_; intro v1' w4 o1 g1 a1; have HO1 := hid o1; have HG1 := hid g1; have HA1 := hid a1; clear o1 g1 a1; obtain ⟨p1', c1', rfl⟩ := own_slice HO1.out; have hnC : some w1.heap.size ≠ (Value.slice p1 k c1).ownBlock := (fun e => by have := (HX.out.2.2.2.2.2.1.o1.lt _ e.symm).1; omega); have f1 : w4.cell? ⟨w1.heap.size, 1, none⟩ = some (.slice p1 k c1) := ((World.grownBy_alloc w2 _ _).trans HG1.out).cell e1' hnC; have f1' : w4.frozen? ⟨w1.heap.size, 1, none⟩ = false := (((World.grownBy_alloc w2 _ _).trans HG1.out).frozen_far ⟨w1.heap.size, 1, none⟩ (by have := HX.out.2.2.2.2.2.2.2.2.1; show w1.heap.size < w2.heap.size; omega) hnC).trans (frozen_of_cells HX.out.2.2.2.2.1); clear hnC))
      obtain ⟨xB, xA, xcA, xC, xcC, xT, xa1, xa2, xsz, xfr⟩ := HX.out
      have hlt1 := xT.o1.lt
      have hlt2 := xT.o2.lt
      obtain ⟨yB, yA, ycA, yC, ycC, ya1, ykeep, ysz, yfr, yoth⟩ := beg_store (i := 1) (A := w.heap.size) xB xA xC xcA xcC (fun j hj => ⟨xa1 j hj, by have := (hlt1 j hj).1; omega⟩) hAC xsz (Nat.le_refl _) xfr HG1.out HO1.out HA1.out
      have yT : Two (w1.heap.size + 1) 3 4 (w4.setCell ⟨w1.heap.size, 1, none⟩ (.slice p1' (k + 1) c1')) (.slice p1' (k + 1) c1') (k + 1) ((insM (k + 1)).map (Value.int .i64)) (.slice p2 k c2) k (((List.range k).map (pickV vals)).map Value.bool) := by
        have h1 := xT.push1 HG1.out HO1.out HA1.out
        rw [insM_succ, List.map_append]
        exact h1.keep fun j hj hj2 => Below.heap_setCell _ _ _ _ (by show j ≠ w1.heap.size; omega)
      have ya2 : ∀ j, (Value.slice p2 k c2).ownBlock = some j → Away bb (w4.setCell ⟨w1.heap.size, 1, none⟩ (.slice p1' (k + 1) c1')) j := fun j hj => ykeep j (xa2 j hj)
      have ylo : ∀ j, j < w.heap.size → Away bb (w4.setCell ⟨w1.heap.size, 1, none⟩ (.slice p1' (k + 1) c1')) j := fun j hj => ykeep j (HLO2.out j hj)
      generalize w4.setCell ⟨w1.heap.size, 1, none⟩ (.slice p1' (k + 1) c1') = w5 at *
      have q2 : w5.cell? ⟨w1.heap.size, 2, none⟩ = some (.slice p2 k c2) := by rw [cell_of_cells ycC]; rfl
      have q2' : w5.frozen? ⟨w1.heap.size, 2, none⟩ = false := frozen_of_cells ycC
      have hstep : ∀ v2' w6, (w5.drew.alloc (.cells #[.bool (pickV vals k)] 4)).grownBy w6 (Value.slice p2 k c2).ownBlock → w6.ownsRow (w1.heap.size + 1) 4 1 v2' (k + 1) (((List.range k).map (pickV vals)).map Value.bool ++ [.bool (pickV vals k)]) →
          (v2'.ownBlock = (Value.slice p2 k c2).ownBlock ∨ v2'.ownBlock = some (w5.drew.alloc (.cells #[.bool (pickV vals k)] 4)).heap.size) →
          BegI bb w.heap.size w1.heap.size w vals (k + 1) (.slice p1' (k + 1) c1') v2' (w6.setCell ⟨w1.heap.size, 2, none⟩ v2') ∧ ∀ j, j < w.heap.size → Away bb (w6.setCell ⟨w1.heap.size, 2, none⟩ v2') j := fun v2' w6 g2 o2 a2 => by
        have bd : Below w5.heap.size w5 w5.drew := (Below.refl _ _).drew
        have fd := FrB.of_below yB bd
        have hl2 := yT.o2.lt
        obtain ⟨zB, zA, zcA, zC, zcC, za2, zkeep, zsz, zfr, zoth⟩ := beg_store (i := 2) (A := w.heap.size) (w := w5.drew) (yB.below bd) (fd.keep _ yA).1 (fd.keep _ yC).1 ycA ycC (fun j hj => ⟨(fd.keep _ (ya2 j hj)).1, by have := (hl2 j hj).1; omega⟩) hAC ysz (Nat.le_refl _) ⟨yfr.os, yfr.tape, yfr.output, yfr.size, yfr.block⟩ g2 o2 a2
        refine ⟨⟨zB, zA, zcA, zC, zcC, ?_, fun j hj => zkeep j (fd.keep _ (ya1 j hj)).1, za2, zsz, zfr⟩, fun j hj => zkeep j (fd.keep _ (ylo j hj)).1⟩
        have yT' : Two (w1.heap.size + 1) 3 4 w5.drew (.slice p1' (k + 1) c1') (k + 1) ((insM (k + 1)).map (Value.int .i64)) (.slice p2 k c2) k (((List.range k).map (pickV vals)).map Value.bool) := yT.keep fun _ _ _ => rfl
        have h2 := yT'.push2 g2 o2 a2
        rw [picks_succ, List.map_append]
        exact h2.keep fun j hj hj2 => Below.heap_setCell _ _ _ _ (by show j ≠ w1.heap.size; omega)
      have HST := hid hstep; have HYT := hid yT
      have hsz5 : w1.heap.size + 1 ≤ w5.heap.size := ysz
      by_cases hv0 : 0 < vals.length
      · have hml : k % vals.length < vals.length := Nat.mod_lt _ hv0
        obtain ⟨b, off, rfl, hRb, hc⟩ := hrv.atB (k % vals.length) hml
        have hcell := (yfr.cell (p := ⟨b, off + k % vals.length, none⟩) (HR.out b hRb)).trans (hc _ hml)
        have hpk : pickV vals k = vals[k % vals.length] := by unfold pickV; rw [if_pos hv0, getD_lt _ _ _ hml]
        have hd : decide ((0 : Int) < (vals.length : Int)) = true := decide_eq_true (by omega)
        have hvne : ¬ vals = [] := by intro e; rw [e] at hv0; simp at hv0
        have hlz : ((vals.length : Int) == 0) = false := by rw [beq_eq_false_iff_ne]; omega
        have t1 : (k : Int).tmod (vals.length : Int) = ((k % vals.length : Nat) : Int) := by rw [Int.tmod_eq_emod_of_nonneg (by omega)]; exact (Int.natCast_emod k vals.length).symm
        rw [← hpk] at hcell
        have hbl : b < w1.heap.size := by have := HR.out b hRb; omega
        have hkn : (k : Int) % (vals.length : Int) = ((k % vals.length : Nat) : Int) := (Int.natCast_emod k vals.length).symm
        have n1 : (0 : Int) ≤ (k : Int) % (vals.length : Int) := by rw [hkn]; omega
        have n2 : (k : Int) % (vals.length : Int) < (vals.length : Int) := by rw [hkn]; omega
        have htn : ((k : Int) % (vals.length : Int)).toNat = k % vals.length := by rw [hkn]; omega
        rw [← htn] at hcell
        have tm : (k : Int).tmod (vals.length : Int) = (k : Int) % (vals.length : Int) := Int.tmod_eq_emod_of_nonneg (by omega)
        clear hkn htn t1
        clear hc hpk yT xT xB xA xcA xC xcC xa1 xa2 xfr yB yA ycA yC ycC ya1 ykeep yfr yoth hstep hlt1 hlt2 ya2 ylo e0 e1 e2 e1' f1 f1'
        generalize pickV vals k = bv at *
        go_wp2_with fail
        refine (wpIn_wide (n := 9)).1 ?_
        refine wpIn_onlyN ?_
        have hS : (fun W' : World => W'.cell? ⟨w1.heap.size, 2, none⟩ = some (.slice p2 k c2) ∧ W'.cell? ⟨b, off + ((k : Int) % (vals.length : Int)).toNat, none⟩ = some (.bool bv)) w5.drew := ⟨q2, hcell⟩
        refine wpIn_region_HJ (fun W' : World => W'.cell? ⟨w1.heap.size, 2, none⟩ = some (.slice p2 k c2) ∧ W'.cell? ⟨b, off + ((k : Int) % (vals.length : Int)).toNat, none⟩ = some (.bool bv)) 17 (by kernel_rfl) ?_
        simp only [List.size_toArray, List.length_cons, List.length_nil, Nat.reduceAdd]
        have hFa : ∀ f, Fence.wide.fn f := fun _ => trivial
        refine wpHJ_pure (v := ?tv0) 0 hFa rfl (by kernel_rfl) (fun _ _ _ h => h.elim) (Or.inl ⟨by rfl, ?ty0⟩) (.inr hS) ?tr0
        case ty0 => (intro w' _; go_simp; try rfl)
        simp only [Act.put, List.setIfInBounds_toArray, List.set_cons_zero, List.set_cons_succ]
        refine wpHJ_take (v := ?tv1) 1 hFa rfl (by kernel_rfl) (fun _ _ _ h => h.elim) (Or.inl ⟨by rfl, ?ty1⟩) hS ?tr1
        case ty1 => (intro w' hS'; obtain ⟨s1, s2⟩ := hS'; go_simp; try rfl)
        simp only [Act.put, List.setIfInBounds_toArray, List.set_cons_zero, List.set_cons_succ]
        refine wpHJ_pure (v := ?tv2) 2 hFa rfl (by kernel_rfl) (fun _ _ _ h => h.elim) (Or.inl ⟨by rfl, ?ty2⟩) (.inr hS) ?tr2
        case ty2 => (intro w' _; go_simp; try rfl)
        simp only [Act.put, List.setIfInBounds_toArray, List.set_cons_zero, List.set_cons_succ]
        refine wpHJ_pure (v := ?tv3) 3 hFa rfl (by kernel_rfl) (fun _ _ _ h => h.elim) (Or.inl ⟨by rfl, ?ty3⟩) (.inr hS) ?tr3
        case ty3 => (intro w' _; go_simp; try rfl)
        simp only [Act.put, List.setIfInBounds_toArray, List.set_cons_zero, List.set_cons_succ]
        refine wpHJ_pure (v := ?tv4) 4 hFa rfl (by kernel_rfl) (fun _ _ _ h => h.elim) (Or.inl ⟨by rfl, ?ty4⟩) (.inr hS) ?tr4
        case ty4 => (intro w' _; go_simp; try rfl)
        simp only [Act.put, List.setIfInBounds_toArray, List.set_cons_zero, List.set_cons_succ]
        refine wpHJ_pure (v := ?tv5) 5 hFa rfl (by kernel_rfl) (fun _ _ _ h => h.elim) (Or.inl ⟨by rfl, ?ty5⟩) (.inr hS) ?tr5
        case ty5 => (intro w' _; go_simp; try rfl)
        simp only [Act.put, List.setIfInBounds_toArray, List.set_cons_zero, List.set_cons_succ]
        refine wpHJ_pure (v := ?tv6) 6 hFa rfl (by kernel_rfl) (fun _ _ _ h => h.elim) (Or.inl ⟨by simp [Region.wanted, yielded], ?ty6⟩) (.inr hS) ?tr6
        case ty6 => (intro w' _; go_simp; try rfl)
        simp only [Act.put, List.setIfInBounds_toArray, List.set_cons_zero, List.set_cons_succ]
        refine wpHJ_pure (v := ?tv7) 7 hFa rfl (by kernel_rfl) (fun _ _ _ h => h.elim) (Or.inl ⟨by simp [Region.wanted, yielded], ?ty7⟩) (.inr hS) ?tr7
        case ty7 => (intro w' _; go_simp; try rfl)
        simp only [Act.put, List.setIfInBounds_toArray, List.set_cons_zero, List.set_cons_succ]
        refine wpHJ_pure (v := ?tv8) 8 hFa rfl (by kernel_rfl) (fun _ _ _ h => h.elim) (Or.inl ⟨by simp [Region.wanted, yielded], ?ty8⟩) (.inr hS) ?tr8
        case ty8 => (intro w' _; go_simp; try rfl)
        simp only [Act.put, List.setIfInBounds_toArray, List.set_cons_zero, List.set_cons_succ]
        refine wpHJ_pure (v := ?tv9) 9 hFa rfl (by kernel_rfl) (fun _ _ _ h => h.elim) (Or.inl ⟨by simp [Region.wanted, yielded], ?ty9⟩) (.inr hS) ?tr9
        case ty9 => (intro w' _; go_simp; try rfl)
        simp only [Act.put, List.setIfInBounds_toArray, List.set_cons_zero, List.set_cons_succ]
        refine wpHJ_pure (v := ?tv10) 10 hFa rfl (by kernel_rfl) (fun _ _ _ h => h.elim) (Or.inl ⟨by simp [Region.wanted, yielded], ?ty10⟩) (.inr hS) ?tr10
        case ty10 => (intro w' _; go_simp; try rfl)
        simp only [Act.put, List.setIfInBounds_toArray, List.set_cons_zero, List.set_cons_succ]
        refine wpHJ_pure (v := ?tv11) 11 hFa rfl (by kernel_rfl) (fun _ _ _ h => h.elim) (Or.inl ⟨by simp [Region.wanted, yielded], ?ty11⟩) (.inr hS) ?tr11
        case ty11 => (intro w' _; go_simp; try rfl)
        simp only [Act.put, List.setIfInBounds_toArray, List.set_cons_zero, List.set_cons_succ]
        refine wpHJ_take (v := ?tv12) 12 hFa rfl (by kernel_rfl) (fun _ _ _ h => h.elim) (Or.inl ⟨by simp [Region.wanted, yielded], ?ty12⟩) hS ?tr12
        case ty12 => (intro w' hS'; obtain ⟨s1, s2⟩ := hS'; go_simp; try rfl)
        simp only [Act.put, List.setIfInBounds_toArray, List.set_cons_zero, List.set_cons_succ]
        refine wpHJ_pure (v := ?tv13) 13 hFa rfl (by kernel_rfl) (fun _ _ _ h => h.elim) (Or.inl ⟨by rfl, ?ty13⟩) (.inr hS) ?tr13
        case ty13 => (intro w' _; go_simp; try rfl)
        simp only [Act.put, List.setIfInBounds_toArray, List.set_cons_zero, List.set_cons_succ]
        refine wpHJ_only 14 (by kernel_rfl) rfl ?_
        intro K hK
        go_simp
        refine hK _ (w5.drew.alloc (.cells #[.bool bv] 4)) (.inr (.inr ⟨by rw [cell_al, if_neg (by show w1.heap.size ≠ w5.heap.size; omega)]; exact q2, by rw [cell_al, if_neg (by show b ≠ w5.heap.size; omega)]; exact hcell⟩)) ?_
        clear hK K
        refine wpHJ_only 15 (by kernel_rfl) rfl ?_
        intro K hK
        rw [if_pos (by simp [Region.wanted])]
        refine wpIn_app hFa (.tmp 37) (.tmp 50) 22 rfl (w1.heap.size + 1) 4 (.bool false) 1 Tryd.underlying22 info_bool rfl (.slice p2 k c2) k _ rfl ((HYT.out.keep (w' := w5.drew) (fun _ _ _ => rfl)).o2.alloc _) (some ⟨w5.heap.size, 0, none⟩) 1 1 [.bool bv] rfl rfl (RowR.one _ _ _) (by simp [Value.oneCell']) (by omega) (by unfold maxLen; omega) (by rw [World.size_alloc]; show _ ≤ w5.heap.size + 1; omega) ?_
        intro v2' w6 o2 g2 a2
        have HF := hid (HST.out v2' w6 g2 o2 a2)
        have hnC : some w1.heap.size ≠ (Value.slice p2 k c2).ownBlock := (fun e => by have := (HYT.out.o2.lt _ e.symm).1; omega)
        have u1 : w6.cell? ⟨w1.heap.size, 2, none⟩ = some (.slice p2 k c2) := ((World.grownBy_alloc w5.drew _ _).trans g2).cell q2 hnC
        have u2 : w6.frozen? ⟨w1.heap.size, 2, none⟩ = false := (((World.grownBy_alloc w5.drew _ _).trans g2).frozen_far ⟨w1.heap.size, 2, none⟩ (by show w1.heap.size < w5.heap.size; omega) hnC).trans q2'
        have u3 : w6.cell? ⟨b, off + ((k : Int) % (vals.length : Int)).toNat, none⟩ = some (.bool bv) := ((World.grownBy_alloc w5.drew _ _).trans g2).cell hcell (fun e => by have h9 : w1.heap.size + 1 ≤ b := (HYT.out.o2.lt _ e.symm).1; omega)
        obtain ⟨p2', c2', rfl⟩ := own_slice o2
        clear o2 g2 a2 hnC
        simp only [Act.put, List.getElem_toArray, List.getElem_cons_succ, List.getElem_cons_zero, List.setIfInBounds_toArray, List.set_cons_zero, List.set_cons_succ]
        refine hK _ _ (.inr (.inr ⟨u1, u3⟩)) ?_
        clear hK K
        refine wpHJ_only 16 (by kernel_rfl) rfl ?_
        intro K hK
        go_simp
        refine hK _ _ (.inr (.inr ⟨u1, u3⟩)) ?_
        clear hK K
        refine wpHJ_only 17 (by kernel_rfl) rfl ?_
        intro K hK
        go_simp
        refine hK _ _ (.inl rfl) ?_
        clear hK K
        refine wpHJ_done (by kernel_rfl) ?_ _
        simp only [onlyN, Exit.then]
        go_wp2
        go_roundw
        case rel => exact ⟨k + 1, _, _, by omega, by go_num, HF.out⟩
        case measure => simp [intOf]; omega
      · have hd2 : decide (0 < vals.length) = false := decide_eq_false hv0
        have hd : decide ((0 : Int) < (vals.length : Int)) = false := decide_eq_false (by omega)
        have hpk : pickV vals k = false := by unfold pickV; rw [if_neg hv0]
        have HVN : Hid (vals = []) := hid (List.eq_nil_of_length_eq_zero (by omega))
        rw [hpk] at hstep
        have HST := hid hstep
        clear hpk yT xT xB xA xcA xC xcC xa1 xa2 xfr yB yA ycA yC ycC ya1 ykeep yfr yoth hstep hlt1 hlt2 ya2 ylo e0 e1 e2 e1' f1 f1'
        go_wp2_with fail
        refine (wpIn_wide (n := 9)).1 ?_
        refine wpIn_onlyN ?_
        have hS : (fun W' : World => W'.cell? ⟨w1.heap.size, 2, none⟩ = some (.slice p2 k c2) ∧ True) w5.drew := ⟨q2, trivial⟩
        refine wpIn_region_HJ (fun W' : World => W'.cell? ⟨w1.heap.size, 2, none⟩ = some (.slice p2 k c2) ∧ True) 17 (by kernel_rfl) ?_
        simp only [List.size_toArray, List.length_cons, List.length_nil, Nat.reduceAdd]
        have hFa : ∀ f, Fence.wide.fn f := fun _ => trivial
        refine wpHJ_pure (v := ?fv0) 0 hFa rfl (by kernel_rfl) (fun _ _ _ h => h.elim) (Or.inl ⟨by rfl, ?fy0⟩) (.inr hS) ?fr0
        case fy0 => (intro w' _; go_simp; try rfl)
        simp only [Act.put, List.setIfInBounds_toArray, List.set_cons_zero, List.set_cons_succ]
        refine wpHJ_take (v := ?fv1) 1 hFa rfl (by kernel_rfl) (fun _ _ _ h => h.elim) (Or.inl ⟨by rfl, ?fy1⟩) hS ?fr1
        case fy1 => (intro w' hS'; obtain ⟨s1, s2⟩ := hS'; go_simp; try rfl)
        simp only [Act.put, List.setIfInBounds_toArray, List.set_cons_zero, List.set_cons_succ]
        refine wpHJ_pure (v := ?fv2) 2 hFa rfl (by kernel_rfl) (fun _ _ _ h => h.elim) (Or.inl ⟨by rfl, ?fy2⟩) (.inr hS) ?fr2
        case fy2 => (intro w' _; go_simp; try rfl)
        simp only [Act.put, List.setIfInBounds_toArray, List.set_cons_zero, List.set_cons_succ]
        refine wpHJ_pure (v := ?fv3) 3 hFa rfl (by kernel_rfl) (fun _ _ _ h => h.elim) (Or.inl ⟨by rfl, ?fy3⟩) (.inr hS) ?fr3
        case fy3 => (intro w' _; go_simp; try rfl)
        simp only [Act.put, List.setIfInBounds_toArray, List.set_cons_zero, List.set_cons_succ]
        refine wpHJ_pure (v := ?fv4) 4 hFa rfl (by kernel_rfl) (fun _ _ _ h => h.elim) (Or.inl ⟨by rfl, ?fy4⟩) (.inr hS) ?fr4
        case fy4 => (intro w' _; go_simp; try rfl)
        simp only [Act.put, List.setIfInBounds_toArray, List.set_cons_zero, List.set_cons_succ]
        refine wpHJ_pure (v := ?fv5) 5 hFa rfl (by kernel_rfl) (fun _ _ _ h => h.elim) (Or.inl ⟨by rfl, ?fy5⟩) (.inr hS) ?fr5
        case fy5 => (intro w' _; go_simp; try rfl)
        simp only [Act.put, List.setIfInBounds_toArray, List.set_cons_zero, List.set_cons_succ]
        refine wpHJ_pure (v := undef) 6 hFa rfl (by kernel_rfl) (fun _ _ _ h => h.elim) (Or.inr ⟨by simp [Region.wanted, yielded], rfl⟩) (.inr hS) ?fr6
        simp only [Act.put, List.setIfInBounds_toArray, List.set_cons_zero, List.set_cons_succ]
        refine wpHJ_pure (v := undef) 7 hFa rfl (by kernel_rfl) (fun _ _ _ h => h.elim) (Or.inr ⟨by simp [Region.wanted, yielded], rfl⟩) (.inr hS) ?fr7
        simp only [Act.put, List.setIfInBounds_toArray, List.set_cons_zero, List.set_cons_succ]
        refine wpHJ_pure (v := undef) 8 hFa rfl (by kernel_rfl) (fun _ _ _ h => h.elim) (Or.inr ⟨by simp [Region.wanted, yielded], rfl⟩) (.inr hS) ?fr8
        simp only [Act.put, List.setIfInBounds_toArray, List.set_cons_zero, List.set_cons_succ]
        refine wpHJ_pure (v := undef) 9 hFa rfl (by kernel_rfl) (fun _ _ _ h => h.elim) (Or.inr ⟨by simp [Region.wanted, yielded], rfl⟩) (.inr hS) ?fr9
        simp only [Act.put, List.setIfInBounds_toArray, List.set_cons_zero, List.set_cons_succ]
        refine wpHJ_pure (v := undef) 10 hFa rfl (by kernel_rfl) (fun _ _ _ h => h.elim) (Or.inr ⟨by simp [Region.wanted, yielded], rfl⟩) (.inr hS) ?fr10
        simp only [Act.put, List.setIfInBounds_toArray, List.set_cons_zero, List.set_cons_succ]
        refine wpHJ_pure (v := undef) 11 hFa rfl (by kernel_rfl) (fun _ _ _ h => h.elim) (Or.inr ⟨by simp [Region.wanted, yielded], rfl⟩) (.inr hS) ?fr11
        simp only [Act.put, List.setIfInBounds_toArray, List.set_cons_zero, List.set_cons_succ]
        refine wpHJ_pure (v := undef) 12 hFa rfl (by kernel_rfl) (fun _ _ _ h => h.elim) (Or.inr ⟨by simp [Region.wanted, yielded], rfl⟩) (.inr hS) ?fr12
        simp only [Act.put, List.setIfInBounds_toArray, List.set_cons_zero, List.set_cons_succ]
        refine wpHJ_pure (v := ?fv13) 13 hFa rfl (by kernel_rfl) (fun _ _ _ h => h.elim) (Or.inl ⟨by rfl, ?fy13⟩) (.inr hS) ?fr13
        case fy13 => (intro w' _; go_simp; try rfl)
        simp only [Act.put, List.setIfInBounds_toArray, List.set_cons_zero, List.set_cons_succ]
        refine wpHJ_only 14 (by kernel_rfl) rfl ?_
        intro K hK
        go_simp
        refine hK _ (w5.drew.alloc (.cells #[.bool false] 4)) (.inr (.inr ⟨by rw [cell_al, if_neg (by show w1.heap.size ≠ w5.heap.size; omega)]; exact q2, trivial⟩)) ?_
        clear hK K
        refine wpHJ_only 15 (by kernel_rfl) rfl ?_
        intro K hK
        rw [if_pos (by simp [Region.wanted])]
        refine wpIn_app hFa (.tmp 37) (.tmp 50) 22 rfl (w1.heap.size + 1) 4 (.bool false) 1 Tryd.underlying22 info_bool rfl (.slice p2 k c2) k _ rfl ((HYT.out.keep (w' := w5.drew) (fun _ _ _ => rfl)).o2.alloc _) (some ⟨w5.heap.size, 0, none⟩) 1 1 [.bool false] rfl rfl (RowR.one _ _ _) (by simp [Value.oneCell']) (by omega) (by unfold maxLen; omega) (by rw [World.size_alloc]; show _ ≤ w5.heap.size + 1; omega) ?_
        intro v2' w6 o2 g2 a2
        have HF := hid (HST.out v2' w6 g2 o2 a2)
        have hnC : some w1.heap.size ≠ (Value.slice p2 k c2).ownBlock := (fun e => by have := (HYT.out.o2.lt _ e.symm).1; omega)
        have u1 : w6.cell? ⟨w1.heap.size, 2, none⟩ = some (.slice p2 k c2) := ((World.grownBy_alloc w5.drew _ _).trans g2).cell q2 hnC
        have u2 : w6.frozen? ⟨w1.heap.size, 2, none⟩ = false := (((World.grownBy_alloc w5.drew _ _).trans g2).frozen_far ⟨w1.heap.size, 2, none⟩ (by show w1.heap.size < w5.heap.size; omega) hnC).trans q2'
        have u3 : True := trivial
        obtain ⟨p2', c2', rfl⟩ := own_slice o2
        clear o2 g2 a2 hnC
        simp only [Act.put, List.getElem_toArray, List.getElem_cons_succ, List.getElem_cons_zero, List.setIfInBounds_toArray, List.set_cons_zero, List.set_cons_succ]
        refine hK _ _ (.inr (.inr ⟨u1, u3⟩)) ?_
        clear hK K
        refine wpHJ_only 16 (by kernel_rfl) rfl ?_
        intro K hK
        go_simp
        refine hK _ _ (.inr (.inr ⟨u1, u3⟩)) ?_
        clear hK K
        refine wpHJ_only 17 (by kernel_rfl) rfl ?_
        intro K hK
        go_simp
        refine hK _ _ (.inl rfl) ?_
        clear hK K
        refine wpHJ_done (by kernel_rfl) ?_ _
        simp only [onlyN, Exit.then]
        go_wp2
        go_roundw
        case rel => exact ⟨k + 1, _, _, by omega, by go_num, HF.out⟩
        case measure => simp [intOf]; omega
    · obtain rfl : k = n := by omega
      have z0 : wo.cell? ⟨w.heap.size, 0, none⟩ = some (.pointer none) := by rw [cell_of_cells hI.cA]; rfl
      have z1 : wo.cell? ⟨w.heap.size, 1, none⟩ = some (.slice none 0 0) := by rw [cell_of_cells hI.cA]; rfl
      have z2 : wo.cell? ⟨w.heap.size, 2, none⟩ = some (.slice none 0 0) := by rw [cell_of_cells hI.cA]; rfl
      have y0 : wo.frozen? ⟨w.heap.size, 0, none⟩ = false := frozen_of_cells hI.cA
      have y1 : wo.frozen? ⟨w.heap.size, 1, none⟩ = false := frozen_of_cells hI.cA
      have y2 : wo.frozen? ⟨w.heap.size, 2, none⟩ = false := frozen_of_cells hI.cA
      have HI := hid hI; have HLO := hid hlo
      clear hI hlo
      go_wp2
      have hlo := HLO.out
      have hI := HI.out
      generalize hwf : World.setCell (World.setCell (World.setCell wo _ _) _ _) _ _ = wf
      have hbf : ∀ j, j ≠ w.heap.size → wf.heap[j]? = wo.heap[j]? := fun j hj => by
        rw [← hwf]; exact (Below.heap_setCell _ _ _ _ hj).trans ((Below.heap_setCell _ _ _ _ hj).trans (Below.heap_setCell _ _ _ _ hj))
      have hsf : wf.heap.size = wo.heap.size := by rw [← hwf, World.size_setCell, World.size_setCell, World.size_setCell]
      have htf : wf.heap[w.heap.size]? = some (.cells #[.pointer (some ⟨bb, 0, none⟩), .slice p1 k c1, .slice p2 k c2] 30 (0, 0)) := by
        rw [← hwf]; exact heap_set_same (heap_set_same (heap_set_same hI.cA _) _) _
      have hos : wf.os = wo.os ∧ wf.tape = wo.tape ∧ wf.output = wo.output := by rw [← hwf]; exact ⟨rfl, rfl, rfl⟩
      obtain ⟨bF, mF⟩ : IsB wf bb ⟨k + 1, [[1]]⟩ ∧ ∀ j, Away bb wo j → Away bb wf j := by
        have hg : wo.grownBy wf (some w.heap.size) := ⟨hos.1, hos.2.1, hos.2.2, by rw [hsf]; exact Nat.le_refl _, fun j _ hj => hbf j (fun e => hj (by rw [e]))⟩
        exact hI.b.grown hg (fun r e => by cases e; exact hI.aA)
      have cf0 : wf.cell? ⟨w.heap.size, 0, none⟩ = some (.pointer (some ⟨bb, 0, none⟩)) := by rw [cell_of_cells htf]; rfl
      have cf1 : wf.cell? ⟨w.heap.size, 1, none⟩ = some (.slice p1 k c1) := by rw [cell_of_cells htf]; rfl
      have cf2 : wf.cell? ⟨w.heap.size, 2, none⟩ = some (.slice p2 k c2) := by rw [cell_of_cells htf]; rfl
      refine bodyPost_ret (v := .tuple #[.agg #[.pointer (some ⟨bb, 0, none⟩), .slice p1 k c1, .slice p2 k c2], .bool true]) (by simp [results, Tryd.results27, go_sem, cf0, cf1, cf2]) rfl ?_
      have hl1 := hI.t.o1.lt
      have hl2 := hI.t.o2.lt
      have i1 : Ints (fun j => Away bb wf j ∧ w.heap.size ≤ j) wf (.slice p1 k c1) (insM k) := Sl.of_owns (owns_keep hI.t.o1 fun j hj => hbf j (by have := (hl1 j hj).1; omega)) (by omega) (fun j hj => ⟨mF _ (hI.a1 j hj), by have := (hl1 j hj).1; omega⟩)
      have i2 : Bools (fun j => Away bb wf j ∧ w.heap.size ≤ j) wf (.slice p2 k c2) (valsM k (sigB vals)) := by
        rw [valsM_sig]
        exact Sl.of_owns (owns_keep hI.t.o2 fun j hj => hbf j (by have := (hl2 j hj).1; omega)) (by omega) (fun j hj => ⟨mF _ (hI.a2 j hj), by have := (hl2 j hj).1; omega⟩)
      exact ⟨bb, _, _, rfl, ⟨bF, begin_good k _ rfl, i1.weaken fun j hj => hj.1, i2.weaken fun j hj => hj.1, hn⟩, ⟨hos.1.trans hI.fr.os, hos.2.1.trans hI.fr.tape, hos.2.2.trans hI.fr.output, by rw [hsf]; exact hI.fr.size, fun j hj => (hbf j (by omega)).trans (hI.fr.block j hj)⟩, by omega, fun j hj => mF _ (hlo j hj), i1, i2⟩

end Go.Proofs.YtjcnhnifageikaaDoor
