/-
  The walk of ShiftFew.
-/
import Derived.Test.YtjcnhnifageikaaDoorShL2
namespace Go.Proofs.YtjcnhnifageikaaDoor
set_option linter.unusedSimpArgs false
set_option linter.unusedVariables false
open Go.RowKit Go.Shelf

/-- A formula that is read, in its box. -/
theorem Bas.form {w0 w w' : World} {bb n V K : Nat} {vin vval : Value} {σ : Nat → Bool} {F : Form} (h : Bas w0 bb n vin vval V K w σ F) (hb : Below w.heap.size w w') (p : Option Addr) (c : Nat) (W' : World) (hW : w'.alloc (.cells #[.int .i64 (F.vars : Int), .slice p F.cls.length c] 52) = W') :
    Bas w0 bb n vin vval V K W' σ F ∧ FrB bb w W' ∧ Own bb W' w'.heap.size (.cells #[.int .i64 (F.vars : Int), .slice p F.cls.length c] 52 (0, 0)) := by
  have h1 := h.fr hb
  subst hW
  have hb2 : Below w'.heap.size w' (w'.alloc (.cells #[.int .i64 (F.vars : Int), .slice p F.cls.length c] 52)) := (Below.refl _ _).alloc (Nat.le_refl _) _
  exact ⟨h1.fr hb2, (FrB.of_below h.st.c.b hb).trans (FrB.of_below h1.st.c.b hb2), ⟨h1.st.c.b.away_new hb2 (Nat.le_refl _) (by simp), by rw [heap_al, if_pos rfl]⟩⟩
attribute [local go_sem] Oper.semAt_some

set_option maxRecDepth 100000 in
set_option maxHeartbeats 6400000 in
theorem shfew_walk (z : Int) (vals : List Bool) (lx ly : List Int) (vv vx vy : Value) (w : World) (hO : Ops w) (hz : -9223372036854775808 ≤ z ∧ z ≤ 9223372036854775807)
    (hv : Bools (· < w.heap.size) w vv vals) (hx : Ints (· < w.heap.size) w vx lx) (hy : Ints (· < w.heap.size) w vy ly)
    (hlx : ∀ x ∈ lx, -9223372036854775808 ≤ x ∧ x ≤ 9223372036854775807) (hly : ∀ x ∈ ly, -9223372036854775808 ≤ x ∧ x ≤ 9223372036854775807) :
    Calls Tryd.prog 8 #[.agg #[.int .i64 z, vv, vx, vy]] w fun e w' => e = .returned (.bool true) ∧ Below w.heap.size w w' := by
  have hb0 : Below w.heap.size w (w.alloc (.cells #[.int .i64 z, vv, vx, vy] 25)) := (Below.refl _ _).alloc (Nat.le_refl _) _
  have hk0 : ∀ k, k < w.heap.size → k < (w.alloc (.cells #[.int .i64 z, vv, vx, vy] 25)).heap.size ∧ (w.alloc (.cells #[.int .i64 z, vv, vx, vy] 25)).heap[k]? = w.heap[k]? := fun k hk => ⟨by simp only [World.size_alloc]; omega, hb0.block k hk⟩
  have hmk := make_mk z vals lx ly vv vx vy (w.alloc (.cells #[.int .i64 z, vv, vx, vy] 25)) hz (hv.keep hk0) (hx.keep hk0) (hy.keep hk0) hlx hly ((z % 64).toNat + 1) rfl
  have hW1 : 1 ≤ (z % 64).toNat + 1 := by omega
  have hW64 : (z % 64).toNat + 1 ≤ 64 := by omega
  generalize (z % 64).toNat + 1 = W at *
  obtain ⟨pv, cv, rfl, _, _, _, _⟩ := hv.op
  obtain ⟨px, cx, rfl, _, _, _, _⟩ := hx.op
  obtain ⟨py, cy, rfl, _, _, _, _⟩ := hy.op
  have HMK := hid hmk; have HO := hid hO
  clear hmk hk0 hv hx hy hlx hly hO
  go_enter Tryd.func8, Tryd.ntmps8
  go_wp2_with fail
  generalize hwc : World.alloc w _ = wc at *
  clear hwc
  have HBC := hid hb0
  have HMC := hid HMK.out
  clear hb0 HMK
  (with_reducible refine HMC.out.mono ?_)
  rintro e w3 ⟨bb, σ0, vin, vval, v1, v2, va, vb, xs, ys, rfl, hC, hxl, hyl, hxo, hyo, ix, iy, ia, ib, hbe, hbb, hlo⟩
  obtain ⟨pi, ci, rfl, _, _, _⟩ := hC.inp.opn (insM_len _)
  obtain ⟨pw, cw, rfl, _, _, _⟩ := hC.val.opn (valsM_len _ _)
  obtain ⟨p1, c1, rfl, _, _, _⟩ := ix.opn hxl
  obtain ⟨p2, c2, rfl, _, _, _⟩ := iy.opn hyl
  obtain ⟨p3, c3, rfl, _, _, _⟩ := ia.opn (n := W) (by rw [List.length_map]; exact hxl)
  obtain ⟨p4, c4, rfl, _, _, _⟩ := ib.opn (n := W) (by rw [List.length_map]; exact hyl)
  have HB3 := hid (show Bas wc bb (2 * W) _ _ (2 * W + 1) 1 w3 σ0 ⟨2 * W + 1, [[1]]⟩ from ⟨St.mk hC hbe hlo, Nat.le_refl _, Nat.le_refl _⟩)
  have HAL := hid (show (xs.map (litT σ0)).length = W by rw [List.length_map, hxl])
  have HBL := hid (show (ys.map (litT σ0)).length = W by rw [List.length_map, hyl])
  have HK3 := hid (((Kit.nil (bb := bb)).word iy (show LitsAre σ0 ⟨2 * W + 1, [[1]]⟩ ys _ from ⟨hyo, rfl⟩)).word ix (show LitsAre σ0 ⟨2 * W + 1, [[1]]⟩ xs _ from ⟨hxo, rfl⟩))
  have HIA3 := hid ia
  have HIB3 := hid ib
  clear hC hbe hlo hxl hyl hxo hyo ix iy ia ib hbb
  generalize xs.map (litT σ0) = ax at *
  generalize ys.map (litT σ0) = ay at *
  go_wp2_with fail
  obtain ⟨hB4, hT4, hsz4, hf4⟩ := HB3.out.box _ rfl
  generalize hw4 : World.alloc w3 _ = w4 at *
  clear hw4
  have HB := hid hB4; have HT := hid hT4; have HK := hid (HK3.out.fr hf4); have HIA := hid (HIA3.out.fr hf4); have HIB := hid (HIB3.out.fr hf4)
  have HOC := hid (HO.out.below HBC.out HO.out.lt)
  have hq1 : W * W ≤ 4096 := by
    have := Nat.mul_le_mul hW64 hW64
    omega
  have HQ := hid hq1
  clear hB4 hT4 hsz4 hf4 HB3 HK3 HIA3 HIB3 HMC hq1
  generalize hF4 : (⟨2 * W + 1, [[1]]⟩ : Form) = F4 at *
  have HX0 := hid (Ext.refl HB.out.st.c.good 0 0)
  clear hF4
  go_wp2_with fail
  go_loopw [10] (fun i wr => ∃ (j : Nat) (σj : Nat → Bool) (Fj : Form), j ≤ 3 ∧ i = .int .i64 j ∧ Bas wc bb (2 * W) (.slice pi (2 * W) ci) (.slice pw (2 * W) cw) (2 * W + 1 + j * (W * W)) (1 + 6 * (j * (W * W))) wr σj Fj ∧ FrB bb w4 wr ∧ Ext (2 * W) σ0 F4 σj Fj (j * (W * W)) (6 * (j * (W * W)))) (fun i _ => 3 - (intOf i).toNat)
  case atStart => exact ⟨0, σ0, F4, by omega, rfl, by simpa using HB.out, Fr.refl _ _, by simpa using HX0.out⟩
  case round =>
    obtain ⟨j, σj, Fj, hj, rfl, hBj, hfj, hxj⟩ := hrel
    obtain ⟨wo, rfl⟩ : ∃ wo : World, wo = wr := ⟨_, rfl⟩
    by_cases hlt : j < 3
    · have hj3 : (j : Int) < 3 := by omega
      have hjv : j * (W * W) + W * W ≤ 12288 := by
        have := Nat.mul_le_mul (show j + 1 ≤ 3 by omega) HQ.out
        rw [Nat.succ_mul] at this
        omega
      have HLT := hid hlt; have HJV := hid hjv
      have hbx := (HT.out.fr hfj).boxS
      obtain ⟨b0, b1, b2⟩ := hbx
      have HC0 := hid (formula_any bb Fj _ hBj.st.c.b (good_len hBj.st.c.good))
      have HBJ := hid hBj; have HFJ := hid hfj; have HXJ := hid hxj
      clear hlt hjv hBj hfj hxj
      go_wp2_with fail
      (with_reducible refine HC0.out.mono ?_)
      rintro e wf1 ⟨vc1, rfl, hLL, hbf⟩
      obtain ⟨pf1, cf1, vs1, rfl, _, _, _, _, _, _⟩ := hLL.op
      obtain ⟨wo1, hwo1⟩ : ∃ w', wf1.alloc (.cells #[.int .i64 (Fj.vars : Int), .slice pf1 Fj.cls.length cf1] 52) = w' := ⟨_, rfl⟩
      obtain ⟨hB1, hf1, hO1⟩ := HBJ.out.form hbf pf1 cf1 wo1 hwo1
      have HWO1 := hid hwo1
      have hB1d := hB1.fr (show Below wo1.heap.size wo1 wo1.drew from ⟨rfl, rfl, rfl, Nat.le_refl _, fun _ _ => rfl⟩)
      have hfd := FrB.of_below hB1.st.c.b (show Below wo1.heap.size wo1 wo1.drew from ⟨rfl, rfl, rfl, Nat.le_refl _, fun _ _ => rfl⟩)
      have hf4 := (HFJ.out.trans hf1).trans hfd
      have hoo := HOC.out.below hB1d.st.fr HOC.out.lt
      have hS : (fun W1 : World => (BoxS w3.heap.size (.pointer (some ⟨bb, 0, none⟩)) (.slice pi (2 * W) ci) (.slice pw (2 * W) cw)) W1 ∧ W1.cell? ⟨0, j, none⟩ = some (.int .u8 (opAt j))) wo1.drew := ⟨(HT.out.fr hf4).boxS, hoo.at' j HLT.out⟩
      have HC := hid (shift_c j HLT.out hB1d (m := W) hW1 hW64 ((HK.out.fr hf4).w (.slice p1 W c1, xs, ax) (by simp)).1 ((HK.out.fr hf4).w (.slice p2 W c2, ys, ay) (by simp)).1 ((HK.out.w (.slice p1 W c1, xs, ax) (by simp)).2.ext HXJ.out) ((HK.out.w (.slice p2 W c2, ys, ay) (by simp)).2.ext HXJ.out) HAL.out HBL.out (by have := HJV.out; omega) (by have := HJV.out; omega))
      have HFD := hid hf4; have HFD1 := hid hfd; have HO1 := hid hO1
      have hv1 := HBJ.out.v; have hk1 := HBJ.out.c
      have HV1 := hid (And.intro hv1 hk1)
      clear hLL hbf hwo1 hB1 hf1 hO1 hB1d hfd hf4 hoo HC0 b0 b1 b2 hv1 hk1
      go_wp2_with fail
      rw [HWO1.out]
      have hFa : ∀ f, Fence.wide.fn f := fun _ => trivial
      refine (wpIn_wide (n := 9)).1 ?_
      refine wpIn_onlyN ?_
      refine wpIn_region_HJ (fun W1 : World => (BoxS w3.heap.size (.pointer (some ⟨bb, 0, none⟩)) (.slice pi (2 * W) ci) (.slice pw (2 * W) cw)) W1 ∧ W1.cell? ⟨0, j, none⟩ = some (.int .u8 (opAt j))) 12 (by kernel_rfl) ?_
      simp only [List.size_toArray, List.length_cons, List.length_nil, Nat.reduceAdd]
      refine wpHJ_pure (v := ?va0) 0 hFa rfl (by kernel_rfl) (fun _ _ _ h => h.elim) (Or.inl ⟨by rfl, ?ya0⟩) (.inr hS) ?ra0
      case ya0 => (intro w' _; go_simp; try rfl)
      simp only [Act.put, List.getElem_toArray, List.getElem_cons_succ, List.getElem_cons_zero, List.setIfInBounds_toArray, List.set_cons_zero, List.set_cons_succ]
      refine wpHJ_take (v := ?va1) 1 hFa rfl (by kernel_rfl) (fun _ _ _ h => h.elim) (Or.inl ⟨by rfl, ?ya1⟩) hS ?ra1
      case ya1 => (intro w' hS'; obtain ⟨⟨s1, s2, s3⟩, s4⟩ := hS'; go_simp; try rfl)
      simp only [Act.put, List.getElem_toArray, List.getElem_cons_succ, List.getElem_cons_zero, List.setIfInBounds_toArray, List.set_cons_zero, List.set_cons_succ]
      refine wpHJ_pure (v := ?va2) 2 hFa rfl (by kernel_rfl) (fun _ _ _ h => h.elim) (Or.inl ⟨by rfl, ?ya2⟩) (.inr hS) ?ra2
      case ya2 => (intro w' _; go_simp; try rfl)
      simp only [Act.put, List.getElem_toArray, List.getElem_cons_succ, List.getElem_cons_zero, List.setIfInBounds_toArray, List.set_cons_zero, List.set_cons_succ]
      refine wpHJ_pure (v := ?va3) 3 hFa rfl (by kernel_rfl) (fun _ _ _ h => h.elim) (Or.inl ⟨by rfl, ?ya3⟩) (.inr hS) ?ra3
      case ya3 => (intro w' _; go_simp; try rfl)
      simp only [Act.put, List.getElem_toArray, List.getElem_cons_succ, List.getElem_cons_zero, List.setIfInBounds_toArray, List.set_cons_zero, List.set_cons_succ]
      refine wpHJ_take (v := ?va4) 4 hFa rfl (by kernel_rfl) (fun _ _ _ h => h.elim) (Or.inl ⟨by rfl, ?ya4⟩) hS ?ra4
      case ya4 => (intro w' hS'; obtain ⟨⟨s1, s2, s3⟩, s4⟩ := hS'; go_simp; try rfl)
      simp only [Act.put, List.getElem_toArray, List.getElem_cons_succ, List.getElem_cons_zero, List.setIfInBounds_toArray, List.set_cons_zero, List.set_cons_succ]
      refine wpHJ_pure (v := ?va5) 5 hFa rfl (by kernel_rfl) (fun _ _ _ h => h.elim) (Or.inl ⟨by rfl, ?ya5⟩) (.inr hS) ?ra5
      case ya5 => (intro w' _; go_simp; try rfl)
      simp only [Act.put, List.getElem_toArray, List.getElem_cons_succ, List.getElem_cons_zero, List.setIfInBounds_toArray, List.set_cons_zero, List.set_cons_succ]
      refine wpHJ_pure (v := ?va6) 6 hFa rfl (by kernel_rfl) (fun _ _ _ h => h.elim) (Or.inl ⟨by rfl, ?ya6⟩) (.inr hS) ?ra6
      case ya6 => (intro w' _; go_simp; try rfl)
      simp only [Act.put, List.getElem_toArray, List.getElem_cons_succ, List.getElem_cons_zero, List.setIfInBounds_toArray, List.set_cons_zero, List.set_cons_succ]
      refine wpHJ_only 7 (by kernel_rfl) rfl ?_
      intro K hK
      go_simp
      (with_reducible refine (callsIn_wide.2 HC.out).mono ?_)
      rintro e w9 ⟨v9, zs9, σ9, F9, rfl, hB9, hi9, hl9, hf9, hx9⟩
      have hz9 : zs9.length = W := by rw [hl9.len, shB_len]; exact HAL.out
      obtain ⟨p9, c9, rfl, _, _, _⟩ := hi9.opn hz9
      have hfr9 := HFD.out.trans hf9
      have hO9 := HO1.out.fr (HFD1.out.trans hf9)
      have hoo9 := HOC.out.below hB9.st.fr HOC.out.lt
      have hS9 : (fun W1 : World => (BoxS w3.heap.size (.pointer (some ⟨bb, 0, none⟩)) (.slice pi (2 * W) ci) (.slice pw (2 * W) cw)) W1 ∧ W1.cell? ⟨0, j, none⟩ = some (.int .u8 (opAt j))) w9 := ⟨(HT.out.fr hfr9).boxS, hoo9.at' j HLT.out⟩
      refine hK _ _ (.inr (.inr hS9)) ?_
      clear hK K
      refine wpHJ_pure (v := ?va8) 8 hFa rfl (by kernel_rfl) (fun _ _ _ h => h.elim) (Or.inl ⟨by rfl, ?ya8⟩) (.inr hS9) ?ra8
      case ya8 => (intro w' _; go_simp; try rfl)
      simp only [Act.put, List.getElem_toArray, List.getElem_cons_succ, List.getElem_cons_zero, List.setIfInBounds_toArray, List.set_cons_zero, List.set_cons_succ]
      refine wpHJ_pure (v := ?va9) 9 hFa rfl (by kernel_rfl) (fun _ _ _ h => h.elim) (Or.inl ⟨by rfl, ?ya9⟩) (.inr hS9) ?ra9
      case ya9 => (intro w' _; go_simp; try rfl)
      simp only [Act.put, List.getElem_toArray, List.getElem_cons_succ, List.getElem_cons_zero, List.setIfInBounds_toArray, List.set_cons_zero, List.set_cons_succ]
      refine wpHJ_pure (v := ?va10) 10 hFa rfl (by kernel_rfl) (fun _ _ _ h => h.elim) (Or.inl ⟨by rfl, ?ya10⟩) (.inr hS9) ?ra10
      case ya10 => (intro w' _; go_simp; try rfl)
      simp only [Act.put, List.getElem_toArray, List.getElem_cons_succ, List.getElem_cons_zero, List.setIfInBounds_toArray, List.set_cons_zero, List.set_cons_succ]
      refine wpHJ_pure (v := ?va11) 11 hFa rfl (by kernel_rfl) (fun _ _ _ h => h.elim) (Or.inl ⟨by rfl, ?ya11⟩) (.inr hS9) ?ra11
      case ya11 => (intro w' _; go_simp; try rfl)
      simp only [Act.put, List.getElem_toArray, List.getElem_cons_succ, List.getElem_cons_zero, List.setIfInBounds_toArray, List.set_cons_zero, List.set_cons_succ]
      refine wpHJ_only 12 (by kernel_rfl) rfl ?_
      intro K hK
      go_simp
      refine hK _ _ (.inl rfl) ?_
      clear hK K
      refine wpHJ_done (by kernel_rfl) ?_ _
      simp only [onlyN, Exit.then]
      clear hFa
      have HB9 := hid hB9; have HF9 := hid hfr9; have HX9 := hid hx9; have HO9 := hid hO9
      have HC9 := hid (formula_any bb F9 _ hB9.st.c.b (good_len hB9.st.c.good))
      obtain ⟨⟨b0, b1, b2⟩, _⟩ := hS9
      clear hB9 hfr9 hx9 hO9 hoo9 hi9 hl9 hf9 hz9 hS HC HO1 HFD HFD1
      go_wp2_with fail
      (with_reducible refine HC9.out.mono ?_)
      rintro e wf2 ⟨vc2, rfl, hLL, hbf⟩
      obtain ⟨pf2, cf2, vs2, rfl, _, _, _, _, _, _⟩ := hLL.op
      obtain ⟨wo2, hwo2⟩ : ∃ w', wf2.alloc (.cells #[.int .i64 (F9.vars : Int), .slice pf2 F9.cls.length cf2] 52) = w' := ⟨_, rfl⟩
      obtain ⟨hB2, hf2, hO2⟩ := HB9.out.form hbf pf2 cf2 wo2 hwo2
      have HWO2 := hid hwo2
      have o1 := (HO9.out.fr hf2).2; have o2 := hO2.2
      have a0 : wo2.cell? ⟨wf1.heap.size, 0, none⟩ = some (.int .i64 (Fj.vars : Int)) := by rw [cell_of_cells o1]; rfl
      have a1 : wo2.cell? ⟨wf1.heap.size, 1, none⟩ = some (.slice pf1 Fj.cls.length cf1) := by rw [cell_of_cells o1]; rfl
      have a2 : wo2.cell? ⟨wf2.heap.size, 0, none⟩ = some (.int .i64 (F9.vars : Int)) := by rw [cell_of_cells o2]; rfl
      have a3 : wo2.cell? ⟨wf2.heap.size, 1, none⟩ = some (.slice pf2 F9.cls.length cf2) := by rw [cell_of_cells o2]; rfl
      rw [← HWO2.out] at a0 a1 a2 a3
      have e1 : (4 : Int) * (W : Int) * (W : Int) = ((4 * (W * W) : Nat) : Int) := by rw [Int.mul_assoc]; simp
      have e2 : (16 : Int) * (W : Int) * (W : Int) = ((16 * (W * W) : Nat) : Int) := by rw [Int.mul_assoc]; simp
      obtain ⟨A1, hA1⟩ : ∃ A1, 4 * (W * W) = A1 := ⟨_, rfl⟩
      obtain ⟨A2, hA2⟩ : ∃ A2, 16 * (W * W) = A2 := ⟨_, rfl⟩
      rw [hA1] at e1
      rw [hA2] at e2
      have hq := HQ.out
      have w1 : A1 ≤ 16384 := by omega
      have w2 : A2 ≤ 65536 := by omega
      have hv9 := HX9.out.v1; have hc9 := HX9.out.c1
      have t1 : decide ((Fj.vars : Int) + (A1 : Int) + 64 * (W : Int) < (F9.vars : Int)) = false := by simp; omega
      have t2 : decide ((Fj.cls.length : Int) + (A2 : Int) + 256 * (W : Int) < (F9.cls.length : Int)) = false := by simp; omega
      obtain ⟨hv1, hk1⟩ := HV1.out
      have hjv := HJV.out
      have n1 : Fj.vars ≤ 1048576 := by omega
      have n2 : Fj.cls.length ≤ 1048576 := by omega
      have n3 : F9.vars ≤ 1048576 := by omega
      have n4 : F9.cls.length ≤ 1048576 := by omega
      have HFIN := hid (And.intro hB2 (And.intro (HF9.out.trans hf2) (HXJ.out.trans HX9.out (Nat.le_refl _) (Nat.le_refl _))))
      clear hLL hbf hwo2 hB2 hf2 hO2 o1 o2 hA1 hA2 hq hv9 hc9 hv1 hk1 hjv b0 b1 b2 HC9 HO9 HB9 HF9
      go_wp2
      rw [HWO2.out]
      go_roundw
      case rel => exact ⟨j + 1, σ9, F9, by have := HLT.out; omega, by go_num, by
        have e1 : (j + 1) * (W * W) = j * (W * W) + W * W := Nat.succ_mul j (W * W)
        rw [e1, Nat.mul_add]
        refine ⟨HFIN.out.1.mono (by omega) (by omega), HFIN.out.2.1, HFIN.out.2.2⟩⟩
      case measure => (have := HLT.out; simp [intOf] <;> omega)
    · obtain rfl : j = 3 := by omega
      have HFR := hid (below_tr' HBC.out hBj.st.fr (Nat.le_refl _))
      have HAW2 := hid (awake18_any wo (HO.out.below HFR.out HO.out.lt))
      clear hBj hfj hxj
      go_wp2_with fail
      (with_reducible refine HAW2.out.mono ?_)
      rintro e wz ⟨rfl, hbz⟩
      have HBZ := hid (below_tr' HFR.out hbz (Nat.le_refl _))
      clear hbz
      go_wp2
      go_ret
      exact ⟨rfl, HBZ.out⟩

end Go.Proofs.YtjcnhnifageikaaDoor
