/-
  The walk of ShiftTwice.
-/
import Derived.Test.YtjcnhnifageikaaDoorShN
namespace Go.Proofs.YtjcnhnifageikaaDoor
set_option linter.unusedSimpArgs false
set_option linter.unusedVariables false
open Go.RowKit Go.Shelf
attribute [local go_sem] Oper.semAt_some

set_option maxRecDepth 100000 in
set_option maxHeartbeats 6400000 in
theorem shtwice_walk (z m0 n0 : Int) (vals : List Bool) (lx ly : List Int) (vv vx vy : Value) (w : World) (hO : Ops w) (hz : -9223372036854775808 ≤ z ∧ z ≤ 9223372036854775807) (hm0 : -9223372036854775808 ≤ m0 ∧ m0 ≤ 9223372036854775807) (hn0 : -9223372036854775808 ≤ n0 ∧ n0 ≤ 9223372036854775807)
    (hv : Bools (· < w.heap.size) w vv vals) (hx : Ints (· < w.heap.size) w vx lx) (hy : Ints (· < w.heap.size) w vy ly)
    (hlx : ∀ x ∈ lx, -9223372036854775808 ≤ x ∧ x ≤ 9223372036854775807) (hly : ∀ x ∈ ly, -9223372036854775808 ≤ x ∧ x ≤ 9223372036854775807) :
    Calls Tryd.prog 6 #[.agg #[.int .i64 z, vv, vx, vy], .int .i64 m0, .int .i64 n0] w fun e w' => e = .returned (.bool true) ∧ Below w.heap.size w w' := by
  have hb0 : Below w.heap.size w (w.alloc (.cells #[.int .i64 z, vv, vx, vy] 25)) := (Below.refl _ _).alloc (Nat.le_refl _) _
  have hk0 : ∀ k, k < w.heap.size → k < (w.alloc (.cells #[.int .i64 z, vv, vx, vy] 25)).heap.size ∧ (w.alloc (.cells #[.int .i64 z, vv, vx, vy] 25)).heap[k]? = w.heap[k]? := fun k hk => ⟨by simp only [World.size_alloc]; omega, hb0.block k hk⟩
  have hmk := make_mk z vals lx ly vv vx vy (w.alloc (.cells #[.int .i64 z, vv, vx, vy] 25)) hz (hv.keep hk0) (hx.keep hk0) (hy.keep hk0) hlx hly ((z % 64).toNat + 1) rfl
  have hW1 : 1 ≤ (z % 64).toNat + 1 := by omega
  have hW64 : (z % 64).toNat + 1 ≤ 64 := by omega
  generalize (z % 64).toNat + 1 = W at *
  obtain ⟨pv, cv, rfl, _, _, _, _⟩ := hv.op
  obtain ⟨px, cx, rfl, _, _, _, _⟩ := hx.op
  obtain ⟨py, cy, rfl, _, _, _, _⟩ := hy.op
  have HMK := hid hmk; have HO := hid hO
  clear hmk hk0 hv hx hy hlx hly hO
  go_enter Tryd.func6, Tryd.ntmps6
  go_wp2_with fail
  generalize hwc : World.alloc w _ = wc at *
  clear hwc
  have HBC := hid hb0
  have HMC := hid HMK.out
  clear hb0 HMK
  (with_reducible refine HMC.out.mono ?_)
  rintro e w3 ⟨bb, σ0, vin, vval, v1, v2, va, vb, xs, ys, rfl, hC, hxl, hyl, hxo, hyo, ix, iy, ia, ib, hbe, hbb, hlo⟩
  obtain ⟨pi, ci, rfl, _, _, _⟩ := hC.inp.opn (insM_len _)
  obtain ⟨pw, cw, rfl, _, _, _⟩ := hC.val.opn (valsM_len _ _)
  obtain ⟨p1, c1, rfl, _, _, _⟩ := ix.opn hxl
  obtain ⟨p2, c2, rfl, _, _, _⟩ := iy.opn hyl
  obtain ⟨p3, c3, rfl, _, _, _⟩ := ia.opn (n := W) (by rw [List.length_map]; exact hxl)
  obtain ⟨p4, c4, rfl, _, _, _⟩ := ib.opn (n := W) (by rw [List.length_map]; exact hyl)
  have HB3 := hid (show Bas wc bb (2 * W) _ _ (2 * W + 1) 1 w3 σ0 ⟨2 * W + 1, [[1]]⟩ from ⟨St.mk hC hbe hlo, Nat.le_refl _, Nat.le_refl _⟩)
  have HAL := hid (show (xs.map (litT σ0)).length = W by rw [List.length_map, hxl])
  have HBL := hid (show (ys.map (litT σ0)).length = W by rw [List.length_map, hyl])
  have HK3 := hid (((Kit.nil (bb := bb)).word iy (show LitsAre σ0 ⟨2 * W + 1, [[1]]⟩ ys _ from ⟨hyo, rfl⟩)).word ix (show LitsAre σ0 ⟨2 * W + 1, [[1]]⟩ xs _ from ⟨hxo, rfl⟩))
  have HIA3 := hid ia
  have HIB3 := hid ib
  clear hC hbe hlo hxl hyl hxo hyo ix iy ia ib hbb
  generalize xs.map (litT σ0) = ax at *
  generalize ys.map (litT σ0) = ay at *
  go_wp2_with fail
  obtain ⟨hB4, hT4, hsz4, hf4⟩ := HB3.out.box _ rfl
  generalize hw4 : World.alloc w3 _ = w4 at *
  clear hw4
  have hb5 : Below w4.heap.size w4 (w4.alloc (.cells #[.slice p1 W c1] 23)) := (Below.refl _ _).alloc (Nat.le_refl _) _
  have hX5 : Own bb (w4.alloc (.cells #[.slice p1 W c1] 23)) (w3.heap.size + 1) (.cells #[.slice p1 W c1] 23 (0, 0)) := by
    rw [← hsz4]
    exact ⟨hB4.st.c.b.away_new hb5 (Nat.le_refl _) (by simp), by rw [heap_al, if_pos rfl]⟩
  have hf5 := FrB.of_below hB4.st.c.b hb5
  have HB := hid (hB4.fr hb5); have HT := hid (hT4.fr hf5); have HK := hid ((HK3.out.fr hf4).fr hf5); have HX := hid hX5
  generalize hw5 : World.alloc w4 _ = w5 at *
  have HOC := hid (HO.out.below HBC.out HO.out.lt)
  have hq1 : W * W ≤ 4096 := by
    have := Nat.mul_le_mul hW64 hW64
    omega
  have HQ := hid hq1
  clear hB4 hT4 hsz4 hf4 hf5 hb5 hX5 hw5 HB3 HK3 HIA3 HIB3 HMC hq1
  obtain ⟨mm, hmm⟩ : ∃ mm : Nat, m0 % (W : Int) = (mm : Int) := ⟨(m0 % (W : Int)).toNat, by have := Int.emod_nonneg m0 (show (W : Int) ≠ 0 by omega); omega⟩
  have hmW : mm < W := by
    have := Int.emod_lt_of_pos m0 (show 0 < (W : Int) by omega)
    omega
  obtain ⟨nn, hnn⟩ : ∃ nn : Nat, n0 % ((W : Int) - (mm : Int)) = (nn : Int) := ⟨(n0 % ((W : Int) - (mm : Int))).toNat, by have := Int.emod_nonneg n0 (show (W : Int) - (mm : Int) ≠ 0 by omega); omega⟩
  have hnW : mm + nn < W := by
    have := Int.emod_lt_of_pos n0 (show 0 < (W : Int) - (mm : Int) by omega)
    omega
  have hmod1 : ∀ w0, Calls Tryd.prog 16 #[.int .i64 m0, .int .i64 (W : Int)] w0 fun e w' => e = .returned (.int .i64 (mm : Int)) ∧ w0 = w' := fun w0 => by
    have := mod_any m0 (W : Int) w0 hm0 (by omega)
    rw [hmm] at this; exact this
  have hmod2 : ∀ w0, Calls Tryd.prog 16 #[.int .i64 n0, .int .i64 ((W : Int) - (mm : Int))] w0 fun e w' => e = .returned (.int .i64 (nn : Int)) ∧ w0 = w' := fun w0 => by
    have := mod_any n0 ((W : Int) - (mm : Int)) w0 hn0 (by omega)
    rw [hnn] at this; exact this
  have HM1 := hid hmod1; have HM2 := hid hmod2; have HNW := hid hnW
  clear hmod1 hmod2 hmm hnn
  (with_reducible refine (HM1.out _).mono ?_)
  rintro e w' ⟨rfl, rfl⟩
  have cX5 : w5.cell? ⟨w3.heap.size + 1, 0, none⟩ = some (.slice p1 W c1) := by rw [cell_of_cells HX.out.2]; rfl
  go_wp2_with fail
  (with_reducible refine (HM2.out _).mono ?_)
  rintro e w' ⟨rfl, rfl⟩
  clear HM1 HM2 cX5
  generalize hF4 : (⟨2 * W + 1, [[1]]⟩ : Form) = F4 at *
  have HX0 := hid (Ext.refl HB.out.st.c.good 0 0)
  clear hF4
  go_wp2_with fail
  go_loopw [14] (fun i wr => ∃ (j : Nat) (σj : Nat → Bool) (Fj : Form), j ≤ 3 ∧ i = .int .i64 j ∧ Bas wc bb (2 * W) (.slice pi (2 * W) ci) (.slice pw (2 * W) cw) (2 * W + 1 + j * (3 * (W * W))) (1 + 6 * (j * (3 * (W * W)))) wr σj Fj ∧ FrB bb w5 wr ∧ Ext (2 * W) σ0 F4 σj Fj (j * (3 * (W * W))) (6 * (j * (3 * (W * W))))) (fun i _ => 3 - (intOf i).toNat)
  case atStart => exact ⟨0, σ0, F4, by omega, rfl, by simpa using HB.out, Fr.refl _ _, by simpa using HX0.out⟩
  case round =>
    obtain ⟨j, σj, Fj, hj, rfl, hBj, hFj, hEj⟩ := hrel
    obtain ⟨wo, rfl⟩ : ∃ wo : World, wo = wr := ⟨_, rfl⟩
    by_cases hlt : j < 3
    · have hj3 : (j : Int) < 3 := by omega
      have hjv : j * (3 * (W * W)) + 3 * (W * W) ≤ 36864 := by
        have := Nat.mul_le_mul (show j + 1 ≤ 3 by omega) (show 3 * (W * W) ≤ 12288 by have := HQ.out; omega)
        rw [Nat.succ_mul] at this
        omega
      have HLT := hid hlt; have HJV := hid hjv
      have HBc0 := hid hBj; have HFc0 := hid hFj; have HEc0 := hid hEj
      have HKc0 := hid (HK.out.step hFj hEj)
      obtain ⟨ss, hss⟩ : ∃ ss : Nat, mm + nn = ss := ⟨_, rfl⟩
      have hwr : IntKind.i64.wrap ((mm : Int) + (nn : Int)) = (ss : Int) := by rw [IntWalk.i64_in _ (by omega)]; omega
      have hsi : (mm : Int) + (nn : Int) = (ss : Int) := by omega
      have HN1 := hid (show mm < 130 by omega); have HN2 := hid (show nn < 130 by omega); have HN3 := hid (show ss < 130 by omega)
      have HSS := hid hss
      clear hlt hjv hBj hFj hEj hss hsi
      have hbd := (show Below wo.heap.size wo wo.drew from ⟨rfl, rfl, rfl, Nat.le_refl _, fun _ _ => rfl⟩)
      have hfd := FrB.of_below HBc0.out.st.c.b hbd
      have HBD1 := hid (HBc0.out.fr hbd); have HFD1 := hid (HFc0.out.trans hfd); have HKD1 := hid (HKc0.out.fr hfd)
      have hS : (fun W1 : World => (BoxS w3.heap.size (.pointer (some ⟨bb, 0, none⟩)) (.slice pi (2 * W) ci) (.slice pw (2 * W) cw)) W1 ∧ W1.cell? ⟨0, j, none⟩ = some (.int .u8 (opAt j)) ∧ W1.cell? ⟨w3.heap.size + 1, 0, none⟩ = some (.slice p1 W c1)) wo.drew := ⟨(HT.out.fr HFD1.out).boxS, (HOC.out.below HBD1.out.st.fr HOC.out.lt).at' j HLT.out, by rw [cell_of_cells (HX.out.fr HFD1.out).2]; rfl⟩
      have HC1 := hid (number_c (w3.heap.size + 1) w3.heap.size bb p1 W c1 mm (.bool true) (.bool true) wo.drew hS.2.2 hS.1.1 (HX.out.fr HFD1.out).lt (HT.out.fr HFD1.out).lt hW64 HN1.out)
      clear hbd hfd
      go_wp2_with fail
      have hFa : ∀ f, Fence.wide.fn f := fun _ => trivial
      refine (wpIn_wide (n := 9)).1 ?_
      refine wpIn_onlyN ?_
      refine wpIn_region_HJ (fun W1 : World => (BoxS w3.heap.size (.pointer (some ⟨bb, 0, none⟩)) (.slice pi (2 * W) ci) (.slice pw (2 * W) cw)) W1 ∧ W1.cell? ⟨0, j, none⟩ = some (.int .u8 (opAt j)) ∧ W1.cell? ⟨w3.heap.size + 1, 0, none⟩ = some (.slice p1 W c1)) 14 (by kernel_rfl) ?_
      simp only [List.size_toArray, List.length_cons, List.length_nil, Nat.reduceAdd]
      refine wpHJ_pure (v := ?va0) 0 hFa rfl (by kernel_rfl) (fun _ _ _ h => h.elim) (Or.inl ⟨by rfl, ?ya0⟩) (.inr hS) ?ra0
      case ya0 => (intro w' _; go_simp; try rfl)
      simp only [Act.put, List.getElem_toArray, List.getElem_cons_succ, List.getElem_cons_zero, List.setIfInBounds_toArray, List.set_cons_zero, List.set_cons_succ]
      refine wpHJ_take (v := ?va1) 1 hFa rfl (by kernel_rfl) (fun _ _ _ h => h.elim) (Or.inl ⟨by rfl, ?ya1⟩) hS ?ra1
      case ya1 => (intro w' hS'; obtain ⟨⟨s1, s2, s3⟩, s4, s5⟩ := hS'; go_simp; try rfl)
      simp only [Act.put, List.getElem_toArray, List.getElem_cons_succ, List.getElem_cons_zero, List.setIfInBounds_toArray, List.set_cons_zero, List.set_cons_succ]
      refine wpHJ_pure (v := ?va2) 2 hFa rfl (by kernel_rfl) (fun _ _ _ h => h.elim) (Or.inl ⟨by rfl, ?ya2⟩) (.inr hS) ?ra2
      case ya2 => (intro w' _; go_simp; try rfl)
      simp only [Act.put, List.getElem_toArray, List.getElem_cons_succ, List.getElem_cons_zero, List.setIfInBounds_toArray, List.set_cons_zero, List.set_cons_succ]
      refine wpHJ_pure (v := ?va3) 3 hFa rfl (by kernel_rfl) (fun _ _ _ h => h.elim) (Or.inl ⟨by rfl, ?ya3⟩) (.inr hS) ?ra3
      case ya3 => (intro w' _; go_simp; try rfl)
      simp only [Act.put, List.getElem_toArray, List.getElem_cons_succ, List.getElem_cons_zero, List.setIfInBounds_toArray, List.set_cons_zero, List.set_cons_succ]
      refine wpHJ_take (v := ?va4) 4 hFa rfl (by kernel_rfl) (fun _ _ _ h => h.elim) (Or.inl ⟨by rfl, ?ya4⟩) hS ?ra4
      case ya4 => (intro w' hS'; obtain ⟨⟨s1, s2, s3⟩, s4, s5⟩ := hS'; go_simp; try rfl)
      simp only [Act.put, List.getElem_toArray, List.getElem_cons_succ, List.getElem_cons_zero, List.setIfInBounds_toArray, List.set_cons_zero, List.set_cons_succ]
      refine wpHJ_take (v := ?va5) 5 hFa rfl (by kernel_rfl) (fun _ _ _ h => h.elim) (Or.inl ⟨by rfl, ?ya5⟩) hS ?ra5
      case ya5 => (intro w' hS'; obtain ⟨⟨s1, s2, s3⟩, s4, s5⟩ := hS'; go_simp; try rfl)
      simp only [Act.put, List.getElem_toArray, List.getElem_cons_succ, List.getElem_cons_zero, List.setIfInBounds_toArray, List.set_cons_zero, List.set_cons_succ]
      refine wpHJ_pure (v := ?va6) 6 hFa rfl (by kernel_rfl) (fun _ _ _ h => h.elim) (Or.inl ⟨by rfl, ?ya6⟩) (.inr hS) ?ra6
      case ya6 => (intro w' _; go_simp; try rfl)
      simp only [Act.put, List.getElem_toArray, List.getElem_cons_succ, List.getElem_cons_zero, List.setIfInBounds_toArray, List.set_cons_zero, List.set_cons_succ]
      refine wpHJ_pure (v := ?va7) 7 hFa rfl (by kernel_rfl) (fun _ _ _ h => h.elim) (Or.inl ⟨by rfl, ?ya7⟩) (.inr hS) ?ra7
      case ya7 => (intro w' _; go_simp; try rfl)
      simp only [Act.put, List.getElem_toArray, List.getElem_cons_succ, List.getElem_cons_zero, List.setIfInBounds_toArray, List.set_cons_zero, List.set_cons_succ]
      refine wpHJ_only 8 (by kernel_rfl) rfl ?_
      intro K hK
      go_simp
      (with_reducible refine (callsIn_wide.2 HC1.out).mono ?_)
      rintro e wn1 ⟨vn1, rfl, hin1, hbn1⟩
      obtain ⟨pn1, cn1, rfl, _, _, _⟩ := hin1.opn (yL_len _ _ _)
      have hBn := HBD1.out.fr hbn1
      have hfn := FrB.of_below HBD1.out.st.c.b hbn1
      have hfw := HFD1.out.trans hfn
      have hSn : (fun W1 : World => (BoxS w3.heap.size (.pointer (some ⟨bb, 0, none⟩)) (.slice pi (2 * W) ci) (.slice pw (2 * W) cw)) W1 ∧ W1.cell? ⟨0, j, none⟩ = some (.int .u8 (opAt j)) ∧ W1.cell? ⟨w3.heap.size + 1, 0, none⟩ = some (.slice p1 W c1)) wn1 := ⟨(HT.out.fr hfw).boxS, (HOC.out.below hBn.st.fr HOC.out.lt).at' j HLT.out, by rw [cell_of_cells (HX.out.fr hfw).2]; rfl⟩
      have hkn := HKD1.out.fr hfn
      have HCS1 := hid (shift_c j HLT.out hBn (m := W) hW1 hW64 (hkn.w (.slice p1 W c1, xs, ax) (by simp)).1 (hin1.weaken fun k hk => HBD1.out.st.c.b.away_new hbn1 hk.1 hk.2) (hkn.w (.slice p1 W c1, xs, ax) (by simp)).2 (yL_fixed hBn.st.c.good W mm) (HAL.out) (ofB_len _ _) (by have := HJV.out; omega) (by have := HJV.out; omega))
      have HFN1 := hid hfw; have HKN1 := hid hkn
      clear hBn hfn hfw hin1 hbn1 HC1 hkn
      refine hK _ _ (.inr (.inr hSn)) ?_
      clear hK K
      refine wpHJ_only 9 (by kernel_rfl) rfl ?_
      intro K hK
      go_simp
      (with_reducible refine (callsIn_wide.2 HCS1.out).mono ?_)
      rintro e ws1 ⟨vs1, zs1, σs1, Fs1, rfl, hB1, hi1, hl1, hf1, hx1⟩
      have hz1 : zs1.length = W := by rw [hl1.len, shB_len]; exact HAL.out
      obtain ⟨ps1, cs1, rfl, _, _, _⟩ := hi1.opn hz1
      have hfw := HFN1.out.trans hf1
      have hS1 : (fun W1 : World => (BoxS w3.heap.size (.pointer (some ⟨bb, 0, none⟩)) (.slice pi (2 * W) ci) (.slice pw (2 * W) cw)) W1 ∧ W1.cell? ⟨0, j, none⟩ = some (.int .u8 (opAt j)) ∧ W1.cell? ⟨w3.heap.size + 1, 0, none⟩ = some (.slice p1 W c1)) ws1 := ⟨(HT.out.fr hfw).boxS, (HOC.out.below hB1.st.fr HOC.out.lt).at' j HLT.out, by rw [cell_of_cells (HX.out.fr hfw).2]; rfl⟩
      have HBc1 := hid hB1; have HFc1 := hid hfw; have HKc1 := hid ((HKN1.out.step hf1 hx1).word hi1 hl1); have HEc1 := hid (HEc0.out.trans hx1 (Nat.le_refl _) (Nat.le_refl _))
      clear hB1 hfw hi1 hl1 hf1 hx1 hz1
      refine hK _ _ (.inr (.inr hS1)) ?_
      clear hK K
      refine wpHJ_pure (v := ?va10) 10 hFa rfl (by kernel_rfl) (fun _ _ _ h => h.elim) (Or.inl ⟨by rfl, ?ya10⟩) (.inr hS1) ?ra10
      case ya10 => (intro w' _; go_simp; try rfl)
      simp only [Act.put, List.getElem_toArray, List.getElem_cons_succ, List.getElem_cons_zero, List.setIfInBounds_toArray, List.set_cons_zero, List.set_cons_succ]
      refine wpHJ_pure (v := ?va11) 11 hFa rfl (by kernel_rfl) (fun _ _ _ h => h.elim) (Or.inl ⟨by rfl, ?ya11⟩) (.inr hS1) ?ra11
      case ya11 => (intro w' _; go_simp; try rfl)
      simp only [Act.put, List.getElem_toArray, List.getElem_cons_succ, List.getElem_cons_zero, List.setIfInBounds_toArray, List.set_cons_zero, List.set_cons_succ]
      refine wpHJ_pure (v := ?va12) 12 hFa rfl (by kernel_rfl) (fun _ _ _ h => h.elim) (Or.inl ⟨by rfl, ?ya12⟩) (.inr hS1) ?ra12
      case ya12 => (intro w' _; go_simp; try rfl)
      simp only [Act.put, List.getElem_toArray, List.getElem_cons_succ, List.getElem_cons_zero, List.setIfInBounds_toArray, List.set_cons_zero, List.set_cons_succ]
      refine wpHJ_pure (v := ?va13) 13 hFa rfl (by kernel_rfl) (fun _ _ _ h => h.elim) (Or.inl ⟨by rfl, ?ya13⟩) (.inr hS1) ?ra13
      case ya13 => (intro w' _; go_simp; try rfl)
      simp only [Act.put, List.getElem_toArray, List.getElem_cons_succ, List.getElem_cons_zero, List.setIfInBounds_toArray, List.set_cons_zero, List.set_cons_succ]
      refine wpHJ_only 14 (by kernel_rfl) rfl ?_
      intro K hK
      go_simp
      refine hK _ _ (.inl rfl) ?_
      clear hK K
      refine wpHJ_done (by kernel_rfl) ?_ _
      simp only [onlyN, Exit.then]
      clear hFa
      clear hS1 hS HCS1 HBD1 HFD1 HKD1 HFN1 HKN1
      have hbd := (show Below ws1.heap.size ws1 ws1.drew from ⟨rfl, rfl, rfl, Nat.le_refl _, fun _ _ => rfl⟩)
      have hfd := FrB.of_below HBc1.out.st.c.b hbd
      have HBD2 := hid (HBc1.out.fr hbd); have HFD2 := hid (HFc1.out.trans hfd); have HKD2 := hid (HKc1.out.fr hfd)
      have hS : (fun W1 : World => (BoxS w3.heap.size (.pointer (some ⟨bb, 0, none⟩)) (.slice pi (2 * W) ci) (.slice pw (2 * W) cw)) W1 ∧ W1.cell? ⟨0, j, none⟩ = some (.int .u8 (opAt j)) ∧ W1.cell? ⟨w3.heap.size + 1, 0, none⟩ = some (.slice p1 W c1)) ws1.drew := ⟨(HT.out.fr HFD2.out).boxS, (HOC.out.below HBD2.out.st.fr HOC.out.lt).at' j HLT.out, by rw [cell_of_cells (HX.out.fr HFD2.out).2]; rfl⟩
      have HC2 := hid (number_c (w3.heap.size + 1) w3.heap.size bb p1 W c1 nn (.bool true) (.bool true) ws1.drew hS.2.2 hS.1.1 (HX.out.fr HFD2.out).lt (HT.out.fr HFD2.out).lt hW64 HN2.out)
      clear hbd hfd
      go_wp2_with fail
      have hFa : ∀ f, Fence.wide.fn f := fun _ => trivial
      refine (wpIn_wide (n := 9)).1 ?_
      refine wpIn_onlyN ?_
      refine wpIn_region_HJ (fun W1 : World => (BoxS w3.heap.size (.pointer (some ⟨bb, 0, none⟩)) (.slice pi (2 * W) ci) (.slice pw (2 * W) cw)) W1 ∧ W1.cell? ⟨0, j, none⟩ = some (.int .u8 (opAt j)) ∧ W1.cell? ⟨w3.heap.size + 1, 0, none⟩ = some (.slice p1 W c1)) 14 (by kernel_rfl) ?_
      simp only [List.size_toArray, List.length_cons, List.length_nil, Nat.reduceAdd]
      refine wpHJ_pure (v := ?vb0) 0 hFa rfl (by kernel_rfl) (fun _ _ _ h => h.elim) (Or.inl ⟨by rfl, ?yb0⟩) (.inr hS) ?rb0
      case yb0 => (intro w' _; go_simp; try rfl)
      simp only [Act.put, List.getElem_toArray, List.getElem_cons_succ, List.getElem_cons_zero, List.setIfInBounds_toArray, List.set_cons_zero, List.set_cons_succ]
      refine wpHJ_take (v := ?vb1) 1 hFa rfl (by kernel_rfl) (fun _ _ _ h => h.elim) (Or.inl ⟨by rfl, ?yb1⟩) hS ?rb1
      case yb1 => (intro w' hS'; obtain ⟨⟨s1, s2, s3⟩, s4, s5⟩ := hS'; go_simp; try rfl)
      simp only [Act.put, List.getElem_toArray, List.getElem_cons_succ, List.getElem_cons_zero, List.setIfInBounds_toArray, List.set_cons_zero, List.set_cons_succ]
      refine wpHJ_pure (v := ?vb2) 2 hFa rfl (by kernel_rfl) (fun _ _ _ h => h.elim) (Or.inl ⟨by rfl, ?yb2⟩) (.inr hS) ?rb2
      case yb2 => (intro w' _; go_simp; try rfl)
      simp only [Act.put, List.getElem_toArray, List.getElem_cons_succ, List.getElem_cons_zero, List.setIfInBounds_toArray, List.set_cons_zero, List.set_cons_succ]
      refine wpHJ_pure (v := ?vb3) 3 hFa rfl (by kernel_rfl) (fun _ _ _ h => h.elim) (Or.inl ⟨by rfl, ?yb3⟩) (.inr hS) ?rb3
      case yb3 => (intro w' _; go_simp; try rfl)
      simp only [Act.put, List.getElem_toArray, List.getElem_cons_succ, List.getElem_cons_zero, List.setIfInBounds_toArray, List.set_cons_zero, List.set_cons_succ]
      refine wpHJ_take (v := ?vb4) 4 hFa rfl (by kernel_rfl) (fun _ _ _ h => h.elim) (Or.inl ⟨by rfl, ?yb4⟩) hS ?rb4
      case yb4 => (intro w' hS'; obtain ⟨⟨s1, s2, s3⟩, s4, s5⟩ := hS'; go_simp; try rfl)
      simp only [Act.put, List.getElem_toArray, List.getElem_cons_succ, List.getElem_cons_zero, List.setIfInBounds_toArray, List.set_cons_zero, List.set_cons_succ]
      refine wpHJ_pure (v := ?vb5) 5 hFa rfl (by kernel_rfl) (fun _ _ _ h => h.elim) (Or.inl ⟨by rfl, ?yb5⟩) (.inr hS) ?rb5
      case yb5 => (intro w' _; go_simp; try rfl)
      simp only [Act.put, List.getElem_toArray, List.getElem_cons_succ, List.getElem_cons_zero, List.setIfInBounds_toArray, List.set_cons_zero, List.set_cons_succ]
      refine wpHJ_pure (v := ?vb6) 6 hFa rfl (by kernel_rfl) (fun _ _ _ h => h.elim) (Or.inl ⟨by rfl, ?yb6⟩) (.inr hS) ?rb6
      case yb6 => (intro w' _; go_simp; try rfl)
      simp only [Act.put, List.getElem_toArray, List.getElem_cons_succ, List.getElem_cons_zero, List.setIfInBounds_toArray, List.set_cons_zero, List.set_cons_succ]
      refine wpHJ_pure (v := ?vb7) 7 hFa rfl (by kernel_rfl) (fun _ _ _ h => h.elim) (Or.inl ⟨by rfl, ?yb7⟩) (.inr hS) ?rb7
      case yb7 => (intro w' _; go_simp; try rfl)
      simp only [Act.put, List.getElem_toArray, List.getElem_cons_succ, List.getElem_cons_zero, List.setIfInBounds_toArray, List.set_cons_zero, List.set_cons_succ]
      refine wpHJ_only 8 (by kernel_rfl) rfl ?_
      intro K hK
      go_simp
      (with_reducible refine (callsIn_wide.2 HC2.out).mono ?_)
      rintro e wn2 ⟨vn2, rfl, hin2, hbn2⟩
      obtain ⟨pn2, cn2, rfl, _, _, _⟩ := hin2.opn (yL_len _ _ _)
      have hBn := HBD2.out.fr hbn2
      have hfn := FrB.of_below HBD2.out.st.c.b hbn2
      have hfw := HFD2.out.trans hfn
      have hSn : (fun W1 : World => (BoxS w3.heap.size (.pointer (some ⟨bb, 0, none⟩)) (.slice pi (2 * W) ci) (.slice pw (2 * W) cw)) W1 ∧ W1.cell? ⟨0, j, none⟩ = some (.int .u8 (opAt j)) ∧ W1.cell? ⟨w3.heap.size + 1, 0, none⟩ = some (.slice p1 W c1)) wn2 := ⟨(HT.out.fr hfw).boxS, (HOC.out.below hBn.st.fr HOC.out.lt).at' j HLT.out, by rw [cell_of_cells (HX.out.fr hfw).2]; rfl⟩
      have hkn := HKD2.out.fr hfn
      have HCS2 := hid (shift_c j HLT.out hBn (m := W) hW1 hW64 (hkn.w (.slice ps1 W cs1, zs1, shB (opAt j) ax (ofB W mm)) (by simp)).1 (hin2.weaken fun k hk => HBD2.out.st.c.b.away_new hbn2 hk.1 hk.2) (hkn.w (.slice ps1 W cs1, zs1, shB (opAt j) ax (ofB W mm)) (by simp)).2 (yL_fixed hBn.st.c.good W nn) ((by rw [shB_len]; exact HAL.out)) (ofB_len _ _) (by have := HJV.out; omega) (by have := HJV.out; omega))
      have HFN2 := hid hfw; have HKN2 := hid hkn
      clear hBn hfn hfw hin2 hbn2 HC2 hkn
      refine hK _ _ (.inr (.inr hSn)) ?_
      clear hK K
      refine wpHJ_only 9 (by kernel_rfl) rfl ?_
      intro K hK
      go_simp
      (with_reducible refine (callsIn_wide.2 HCS2.out).mono ?_)
      rintro e ws2 ⟨vs2, zs2, σs2, Fs2, rfl, hB2, hi2, hl2, hf2, hx2⟩
      have hz2 : zs2.length = W := by rw [hl2.len, shB_len]; exact (by rw [shB_len]; exact HAL.out)
      obtain ⟨ps2, cs2, rfl, _, _, _⟩ := hi2.opn hz2
      have hfw := HFN2.out.trans hf2
      have hS2 : (fun W1 : World => (BoxS w3.heap.size (.pointer (some ⟨bb, 0, none⟩)) (.slice pi (2 * W) ci) (.slice pw (2 * W) cw)) W1 ∧ W1.cell? ⟨0, j, none⟩ = some (.int .u8 (opAt j)) ∧ W1.cell? ⟨w3.heap.size + 1, 0, none⟩ = some (.slice p1 W c1)) ws2 := ⟨(HT.out.fr hfw).boxS, (HOC.out.below hB2.st.fr HOC.out.lt).at' j HLT.out, by rw [cell_of_cells (HX.out.fr hfw).2]; rfl⟩
      have HBc2 := hid hB2; have HFc2 := hid hfw; have HKc2 := hid ((HKN2.out.step hf2 hx2).word hi2 hl2); have HEc2 := hid (HEc1.out.trans hx2 (Nat.le_refl _) (Nat.le_refl _))
      clear hB2 hfw hi2 hl2 hf2 hx2 hz2
      refine hK _ _ (.inr (.inr hS2)) ?_
      clear hK K
      refine wpHJ_pure (v := ?vb10) 10 hFa rfl (by kernel_rfl) (fun _ _ _ h => h.elim) (Or.inl ⟨by rfl, ?yb10⟩) (.inr hS2) ?rb10
      case yb10 => (intro w' _; go_simp; try rfl)
      simp only [Act.put, List.getElem_toArray, List.getElem_cons_succ, List.getElem_cons_zero, List.setIfInBounds_toArray, List.set_cons_zero, List.set_cons_succ]
      refine wpHJ_pure (v := ?vb11) 11 hFa rfl (by kernel_rfl) (fun _ _ _ h => h.elim) (Or.inl ⟨by rfl, ?yb11⟩) (.inr hS2) ?rb11
      case yb11 => (intro w' _; go_simp; try rfl)
      simp only [Act.put, List.getElem_toArray, List.getElem_cons_succ, List.getElem_cons_zero, List.setIfInBounds_toArray, List.set_cons_zero, List.set_cons_succ]
      refine wpHJ_pure (v := ?vb12) 12 hFa rfl (by kernel_rfl) (fun _ _ _ h => h.elim) (Or.inl ⟨by rfl, ?yb12⟩) (.inr hS2) ?rb12
      case yb12 => (intro w' _; go_simp; try rfl)
      simp only [Act.put, List.getElem_toArray, List.getElem_cons_succ, List.getElem_cons_zero, List.setIfInBounds_toArray, List.set_cons_zero, List.set_cons_succ]
      refine wpHJ_pure (v := ?vb13) 13 hFa rfl (by kernel_rfl) (fun _ _ _ h => h.elim) (Or.inl ⟨by rfl, ?yb13⟩) (.inr hS2) ?rb13
      case yb13 => (intro w' _; go_simp; try rfl)
      simp only [Act.put, List.getElem_toArray, List.getElem_cons_succ, List.getElem_cons_zero, List.setIfInBounds_toArray, List.set_cons_zero, List.set_cons_succ]
      refine wpHJ_only 14 (by kernel_rfl) rfl ?_
      intro K hK
      go_simp
      refine hK _ _ (.inl rfl) ?_
      clear hK K
      refine wpHJ_done (by kernel_rfl) ?_ _
      simp only [onlyN, Exit.then]
      clear hFa
      clear hS2 hS HCS2 HBD2 HFD2 HKD2 HFN2 HKN2
      have hbd := (show Below ws2.heap.size ws2 ws2.drew from ⟨rfl, rfl, rfl, Nat.le_refl _, fun _ _ => rfl⟩)
      have hfd := FrB.of_below HBc2.out.st.c.b hbd
      have HBD3 := hid (HBc2.out.fr hbd); have HFD3 := hid (HFc2.out.trans hfd); have HKD3 := hid (HKc2.out.fr hfd)
      have hS : (fun W1 : World => (BoxS w3.heap.size (.pointer (some ⟨bb, 0, none⟩)) (.slice pi (2 * W) ci) (.slice pw (2 * W) cw)) W1 ∧ W1.cell? ⟨0, j, none⟩ = some (.int .u8 (opAt j)) ∧ W1.cell? ⟨w3.heap.size + 1, 0, none⟩ = some (.slice p1 W c1)) ws2.drew := ⟨(HT.out.fr HFD3.out).boxS, (HOC.out.below HBD3.out.st.fr HOC.out.lt).at' j HLT.out, by rw [cell_of_cells (HX.out.fr HFD3.out).2]; rfl⟩
      have HC3 := hid (number_c (w3.heap.size + 1) w3.heap.size bb p1 W c1 ss (.bool true) (.bool true) ws2.drew hS.2.2 hS.1.1 (HX.out.fr HFD3.out).lt (HT.out.fr HFD3.out).lt hW64 HN3.out)
      clear hbd hfd
      go_wp2_with fail
      have hFa : ∀ f, Fence.wide.fn f := fun _ => trivial
      refine (wpIn_wide (n := 9)).1 ?_
      refine wpIn_onlyN ?_
      refine wpIn_region_HJ (fun W1 : World => (BoxS w3.heap.size (.pointer (some ⟨bb, 0, none⟩)) (.slice pi (2 * W) ci) (.slice pw (2 * W) cw)) W1 ∧ W1.cell? ⟨0, j, none⟩ = some (.int .u8 (opAt j)) ∧ W1.cell? ⟨w3.heap.size + 1, 0, none⟩ = some (.slice p1 W c1)) 16 (by kernel_rfl) ?_
      simp only [List.size_toArray, List.length_cons, List.length_nil, Nat.reduceAdd]
      refine wpHJ_pure (v := ?vc0) 0 hFa rfl (by kernel_rfl) (fun _ _ _ h => h.elim) (Or.inl ⟨by rfl, ?yc0⟩) (.inr hS) ?rc0
      case yc0 => (intro w' _; go_simp; try rfl)
      simp only [Act.put, List.getElem_toArray, List.getElem_cons_succ, List.getElem_cons_zero, List.setIfInBounds_toArray, List.set_cons_zero, List.set_cons_succ]
      refine wpHJ_take (v := ?vc1) 1 hFa rfl (by kernel_rfl) (fun _ _ _ h => h.elim) (Or.inl ⟨by rfl, ?yc1⟩) hS ?rc1
      case yc1 => (intro w' hS'; obtain ⟨⟨s1, s2, s3⟩, s4, s5⟩ := hS'; go_simp; try rfl)
      simp only [Act.put, List.getElem_toArray, List.getElem_cons_succ, List.getElem_cons_zero, List.setIfInBounds_toArray, List.set_cons_zero, List.set_cons_succ]
      refine wpHJ_pure (v := ?vc2) 2 hFa rfl (by kernel_rfl) (fun _ _ _ h => h.elim) (Or.inl ⟨by rfl, ?yc2⟩) (.inr hS) ?rc2
      case yc2 => (intro w' _; go_simp; try rfl)
      simp only [Act.put, List.getElem_toArray, List.getElem_cons_succ, List.getElem_cons_zero, List.setIfInBounds_toArray, List.set_cons_zero, List.set_cons_succ]
      refine wpHJ_pure (v := ?vc3) 3 hFa rfl (by kernel_rfl) (fun _ _ _ h => h.elim) (Or.inl ⟨by rfl, ?yc3⟩) (.inr hS) ?rc3
      case yc3 => (intro w' _; go_simp; try rfl)
      simp only [Act.put, List.getElem_toArray, List.getElem_cons_succ, List.getElem_cons_zero, List.setIfInBounds_toArray, List.set_cons_zero, List.set_cons_succ]
      refine wpHJ_take (v := ?vc4) 4 hFa rfl (by kernel_rfl) (fun _ _ _ h => h.elim) (Or.inl ⟨by rfl, ?yc4⟩) hS ?rc4
      case yc4 => (intro w' hS'; obtain ⟨⟨s1, s2, s3⟩, s4, s5⟩ := hS'; go_simp; try rfl)
      simp only [Act.put, List.getElem_toArray, List.getElem_cons_succ, List.getElem_cons_zero, List.setIfInBounds_toArray, List.set_cons_zero, List.set_cons_succ]
      refine wpHJ_take (v := ?vc5) 5 hFa rfl (by kernel_rfl) (fun _ _ _ h => h.elim) (Or.inl ⟨by rfl, ?yc5⟩) hS ?rc5
      case yc5 => (intro w' hS'; obtain ⟨⟨s1, s2, s3⟩, s4, s5⟩ := hS'; go_simp; try rfl)
      simp only [Act.put, List.getElem_toArray, List.getElem_cons_succ, List.getElem_cons_zero, List.setIfInBounds_toArray, List.set_cons_zero, List.set_cons_succ]
      refine wpHJ_pure (v := ?vc6) 6 hFa rfl (by kernel_rfl) (fun _ _ _ h => h.elim) (Or.inl ⟨by rfl, ?yc6⟩) (.inr hS) ?rc6
      case yc6 => (intro w' _; go_simp; try rfl)
      simp only [Act.put, List.getElem_toArray, List.getElem_cons_succ, List.getElem_cons_zero, List.setIfInBounds_toArray, List.set_cons_zero, List.set_cons_succ]
      refine wpHJ_pure (v := ?vc7) 7 hFa rfl (by kernel_rfl) (fun _ _ _ h => h.elim) (Or.inl ⟨by rfl, ?yc7⟩) (.inr hS) ?rc7
      case yc7 => (intro w' _; go_simp; try rfl)
      simp only [Act.put, List.getElem_toArray, List.getElem_cons_succ, List.getElem_cons_zero, List.setIfInBounds_toArray, List.set_cons_zero, List.set_cons_succ]
      refine wpHJ_pure (v := ?vc8) 8 hFa rfl (by kernel_rfl) (fun _ _ _ h => h.elim) (Or.inl ⟨by rfl, ?yc8⟩) (.inr hS) ?rc8
      case yc8 => (intro w' _; go_simp; try rfl)
      simp only [Act.put, List.getElem_toArray, List.getElem_cons_succ, List.getElem_cons_zero, List.setIfInBounds_toArray, List.set_cons_zero, List.set_cons_succ]
      refine wpHJ_pure (v := ?vc9) 9 hFa rfl (by kernel_rfl) (fun _ _ _ h => h.elim) (Or.inl ⟨by rfl, ?yc9⟩) (.inr hS) ?rc9
      case yc9 => (intro w' _; go_simp; try rfl)
      simp only [Act.put, List.getElem_toArray, List.getElem_cons_succ, List.getElem_cons_zero, List.setIfInBounds_toArray, List.set_cons_zero, List.set_cons_succ]
      refine wpHJ_only 10 (by kernel_rfl) rfl ?_
      intro K hK
      go_simp
      (with_reducible refine (callsIn_wide.2 HC3.out).mono ?_)
      rintro e wn3 ⟨vn3, rfl, hin3, hbn3⟩
      obtain ⟨pn3, cn3, rfl, _, _, _⟩ := hin3.opn (yL_len _ _ _)
      have hBn := HBD3.out.fr hbn3
      have hfn := FrB.of_below HBD3.out.st.c.b hbn3
      have hfw := HFD3.out.trans hfn
      have hSn : (fun W1 : World => (BoxS w3.heap.size (.pointer (some ⟨bb, 0, none⟩)) (.slice pi (2 * W) ci) (.slice pw (2 * W) cw)) W1 ∧ W1.cell? ⟨0, j, none⟩ = some (.int .u8 (opAt j)) ∧ W1.cell? ⟨w3.heap.size + 1, 0, none⟩ = some (.slice p1 W c1)) wn3 := ⟨(HT.out.fr hfw).boxS, (HOC.out.below hBn.st.fr HOC.out.lt).at' j HLT.out, by rw [cell_of_cells (HX.out.fr hfw).2]; rfl⟩
      have hkn := HKD3.out.fr hfn
      have HCS3 := hid (shift_c j HLT.out hBn (m := W) hW1 hW64 (hkn.w (.slice p1 W c1, xs, ax) (by simp)).1 (hin3.weaken fun k hk => HBD3.out.st.c.b.away_new hbn3 hk.1 hk.2) (hkn.w (.slice p1 W c1, xs, ax) (by simp)).2 (yL_fixed hBn.st.c.good W ss) (HAL.out) (ofB_len _ _) (by have := HJV.out; omega) (by have := HJV.out; omega))
      have HFN3 := hid hfw; have HKN3 := hid hkn
      clear hBn hfn hfw hin3 hbn3 HC3 hkn
      refine hK _ _ (.inr (.inr hSn)) ?_
      clear hK K
      refine wpHJ_only 11 (by kernel_rfl) rfl ?_
      intro K hK
      go_simp
      (with_reducible refine (callsIn_wide.2 HCS3.out).mono ?_)
      rintro e ws3 ⟨vs3, zs3, σs3, Fs3, rfl, hB3, hi3, hl3, hf3, hx3⟩
      have hz3 : zs3.length = W := by rw [hl3.len, shB_len]; exact HAL.out
      obtain ⟨ps3, cs3, rfl, _, _, _⟩ := hi3.opn hz3
      have hfw := HFN3.out.trans hf3
      have hS3 : (fun W1 : World => (BoxS w3.heap.size (.pointer (some ⟨bb, 0, none⟩)) (.slice pi (2 * W) ci) (.slice pw (2 * W) cw)) W1 ∧ W1.cell? ⟨0, j, none⟩ = some (.int .u8 (opAt j)) ∧ W1.cell? ⟨w3.heap.size + 1, 0, none⟩ = some (.slice p1 W c1)) ws3 := ⟨(HT.out.fr hfw).boxS, (HOC.out.below hB3.st.fr HOC.out.lt).at' j HLT.out, by rw [cell_of_cells (HX.out.fr hfw).2]; rfl⟩
      have HBc3 := hid hB3; have HFc3 := hid hfw; have HKc3 := hid ((HKN3.out.step hf3 hx3).word hi3 hl3); have HEc3 := hid (HEc2.out.trans hx3 (Nat.le_refl _) (Nat.le_refl _))
      clear hB3 hfw hi3 hl3 hf3 hx3 hz3
      refine hK _ _ (.inr (.inr hS3)) ?_
      clear hK K
      refine wpHJ_pure (v := ?vc12) 12 hFa rfl (by kernel_rfl) (fun _ _ _ h => h.elim) (Or.inl ⟨by rfl, ?yc12⟩) (.inr hS3) ?rc12
      case yc12 => (intro w' _; go_simp; try rfl)
      simp only [Act.put, List.getElem_toArray, List.getElem_cons_succ, List.getElem_cons_zero, List.setIfInBounds_toArray, List.set_cons_zero, List.set_cons_succ]
      refine wpHJ_pure (v := ?vc13) 13 hFa rfl (by kernel_rfl) (fun _ _ _ h => h.elim) (Or.inl ⟨by rfl, ?yc13⟩) (.inr hS3) ?rc13
      case yc13 => (intro w' _; go_simp; try rfl)
      simp only [Act.put, List.getElem_toArray, List.getElem_cons_succ, List.getElem_cons_zero, List.setIfInBounds_toArray, List.set_cons_zero, List.set_cons_succ]
      refine wpHJ_pure (v := ?vc14) 14 hFa rfl (by kernel_rfl) (fun _ _ _ h => h.elim) (Or.inl ⟨by rfl, ?yc14⟩) (.inr hS3) ?rc14
      case yc14 => (intro w' _; go_simp; try rfl)
      simp only [Act.put, List.getElem_toArray, List.getElem_cons_succ, List.getElem_cons_zero, List.setIfInBounds_toArray, List.set_cons_zero, List.set_cons_succ]
      refine wpHJ_pure (v := ?vc15) 15 hFa rfl (by kernel_rfl) (fun _ _ _ h => h.elim) (Or.inl ⟨by rfl, ?yc15⟩) (.inr hS3) ?rc15
      case yc15 => (intro w' _; go_simp; try rfl)
      simp only [Act.put, List.getElem_toArray, List.getElem_cons_succ, List.getElem_cons_zero, List.setIfInBounds_toArray, List.set_cons_zero, List.set_cons_succ]
      refine wpHJ_only 16 (by kernel_rfl) rfl ?_
      intro K hK
      go_simp
      refine hK _ _ (.inl rfl) ?_
      clear hK K
      refine wpHJ_done (by kernel_rfl) ?_ _
      simp only [onlyN, Exit.then]
      clear hFa
      clear hS3 hS HCS3 HBD3 HFD3 HKD3 HFN3 HKN3
      clear hwr
      have HB := HBc3
      have HTb := hid (HT.out.fr HFc3.out)
      have hSd := (HTb.out.boxS).drew
      go_wp2_with fail
      have hbd : Below ws3.heap.size ws3 ws3.drew := ⟨rfl, rfl, rfl, Nat.le_refl _, fun _ _ => rfl⟩
      have hCd := HB.out.st.c.below hbd
      have hlt := HTb.out.lt
      have HCd := hid hCd
      clear hbd hCd
      have hFa : ∀ f, Fence.wide.fn f := fun _ => trivial
      refine (wpIn_wide (n := 9)).1 ?_
      refine wpIn_onlyN ?_
      refine wpIn_region_HJ (BoxS w3.heap.size (.pointer (some ⟨bb, 0, none⟩)) (.slice pi (2 * W) ci) (.slice pw (2 * W) cw)) 10 (by kernel_rfl) ?_
      simp only [List.size_toArray, List.length_cons, List.length_nil, Nat.reduceAdd]
      refine wpHJ_pure (v := ?vd0) 0 hFa rfl (by kernel_rfl) (fun _ _ _ h => h.elim) (Or.inl ⟨by rfl, ?yd0⟩) (.inr hSd) ?rd0
      case yd0 => (intro w' _; go_simp; try rfl)
      simp only [Act.put, List.getElem_toArray, List.getElem_cons_succ, List.getElem_cons_zero, List.setIfInBounds_toArray, List.set_cons_zero, List.set_cons_succ]
      refine wpHJ_take (v := ?vd1) 1 hFa rfl (by kernel_rfl) (fun _ _ _ h => h.elim) (Or.inl ⟨by rfl, ?yd1⟩) hSd ?rd1
      case yd1 => (intro w' hS'; obtain ⟨s1, s2, s3⟩ := hS'; go_simp; try rfl)
      simp only [Act.put, List.getElem_toArray, List.getElem_cons_succ, List.getElem_cons_zero, List.setIfInBounds_toArray, List.set_cons_zero, List.set_cons_succ]
      refine wpHJ_take (v := ?vd3) 3 hFa rfl (by kernel_rfl) (fun _ _ _ h => h.elim) (Or.inl ⟨by rfl, ?yd3⟩) hSd ?rd3
      case yd3 => (intro w' hS'; obtain ⟨s1, s2, s3⟩ := hS'; go_simp; try rfl)
      simp only [Act.put, List.getElem_toArray, List.getElem_cons_succ, List.getElem_cons_zero, List.setIfInBounds_toArray, List.set_cons_zero, List.set_cons_succ]
      refine wpHJ_only 2 (by kernel_rfl) rfl ?_
      intro K hK
      go_simp
      (with_reducible refine (callsIn_wide.2 (formula_any bb _ _ HCd.out.b (good_len HCd.out.good))).mono ?_)
      rintro e wF ⟨vc, rfl, hLL, hbF⟩
      obtain ⟨pc, cc, vs, rfl, _, _, _, _, _, _⟩ := hLL.op
      have hSF := BoxS.below hSd hbF hlt
      refine hK _ _ (.inr (.inr hSF)) ?_
      clear hK K
      refine wpHJ_only 4 (by kernel_rfl) rfl ?_
      intro K hK
      go_simp
      (with_reducible refine (callsIn_wide.2 (asm_c (HCd.out.below hbF))).mono ?_)
      rintro e wA ⟨va, rfl, hva, hbA⟩
      have hSA := hSF.below hbA (Nat.lt_of_lt_of_le hlt hbF.size)
      refine hK _ _ (.inr (.inr hSA)) ?_
      clear hK K
      refine wpHJ_only 5 (by kernel_rfl) rfl ?_
      intro K hK
      go_simp
      have hdc := dec_c (w := wA) HCd.out.good HCd.out.n HCd.out.b.vars HCd.out.b.cls (hLL.keep fun k hk => ⟨Nat.lt_of_lt_of_le hk.2 hbA.size, hbA.block k hk.2⟩) (hva.weaken fun k hk => hk.2)
      (with_reducible refine (callsIn_wide.2 hdc).mono ?_)
      rintro e wK ⟨pk, ck, kk, rfl, hrk, hKO, hbK⟩
      have hbFA := below_tr' hbF hbA (Nat.le_refl _)
      have hbFK := below_tr' hbFA hbK (Nat.le_refl _)
      have hbW : Below ws3.heap.size ws3 wK := ⟨hbFK.os, hbFK.tape, hbFK.output, hbFK.size, hbFK.block⟩
      have hSK := hSA.below hbK (Nat.lt_of_lt_of_le hlt hbFA.size)
      have HBK := hid hbW; have HRK := hid hrk; have HKO := hid hKO
      have HFK := hid (FrB.of_below HB.out.st.c.b hbW)
      clear hdc hbF hbA hbK hbFA hbFK hbW hrk hKO hva hLL hSF hSA hSd
      refine hK _ _ (.inr (.inr hSK)) ?_
      clear hK K
      refine wpHJ_pure (v := ?vd6) 6 hFa rfl (by kernel_rfl) (fun _ _ _ h => h.elim) (Or.inl ⟨by rfl, ?yd6⟩) (.inr hSK) ?rd6
      case yd6 => (intro w' _; go_simp; try rfl)
      simp only [Act.put, List.getElem_toArray, List.getElem_cons_succ, List.getElem_cons_zero, List.setIfInBounds_toArray, List.set_cons_zero, List.set_cons_succ]
      refine wpHJ_pure (v := ?vd7) 7 hFa rfl (by kernel_rfl) (fun _ _ _ h => h.elim) (Or.inl ⟨by rfl, ?yd7⟩) (.inr hSK) ?rd7
      case yd7 => (intro w' _; go_simp; try rfl)
      simp only [Act.put, List.getElem_toArray, List.getElem_cons_succ, List.getElem_cons_zero, List.setIfInBounds_toArray, List.set_cons_zero, List.set_cons_succ]
      refine wpHJ_pure (v := ?vd8) 8 hFa rfl (by kernel_rfl) (fun _ _ _ h => h.elim) (Or.inl ⟨by rfl, ?yd8⟩) (.inr hSK) ?rd8
      case yd8 => (intro w' _; go_simp; try rfl)
      simp only [Act.put, List.getElem_toArray, List.getElem_cons_succ, List.getElem_cons_zero, List.setIfInBounds_toArray, List.set_cons_zero, List.set_cons_succ]
      refine wpHJ_pure (v := ?vd9) 9 hFa rfl (by kernel_rfl) (fun _ _ _ h => h.elim) (Or.inl ⟨by rfl, ?yd9⟩) (.inr hSK) ?rd9
      case yd9 => (intro w' _; go_simp; try rfl)
      simp only [Act.put, List.getElem_toArray, List.getElem_cons_succ, List.getElem_cons_zero, List.setIfInBounds_toArray, List.set_cons_zero, List.set_cons_succ]
      refine wpHJ_only 10 (by kernel_rfl) rfl ?_
      intro K hK
      go_simp
      refine hK _ _ (.inl rfl) ?_
      clear hK K
      refine wpHJ_done (by kernel_rfl) ?_ _
      simp only [onlyN, Exit.then]
      clear hFa
      clear hSK
      have HKW := hid (HKc3.out.fr HFK.out)
      have v1 := valc_of (ck := ck) HKW.out HKO.out HB.out.st.c.b.vars HRK.out (v := .slice ps2 W cs2) (zs := zs2) (bs := shB (opAt j) (shB (opAt j) ax (ofB W mm)) (ofB W nn)) (by simp) (by rw [shB_len, shB_len, HAL.out]; exact hW64)
      have v2 := valc_of (ck := ck) HKW.out HKO.out HB.out.st.c.b.vars HRK.out (v := .slice ps3 W cs3) (zs := zs3) (bs := shB (opAt j) ax (ofB W ss)) (by simp) (by rw [shB_len, HAL.out]; exact hW64)
      have htw : shB (opAt j) (shB (opAt j) ax (ofB W mm)) (ofB W nn) = shB (opAt j) ax (ofB W ss) := by
        have hop : opAt j = 12 ∨ opAt j = 13 ∨ opAt j = 14 := by
          have := HLT.out
          obtain rfl | rfl | rfl : j = 0 ∨ j = 1 ∨ j = 2 := by omega
          · exact .inl rfl
          · exact .inr (.inl rfl)
          · exact .inr (.inr rfl)
        have h := shB_twice (opAt j) hop ax mm nn (by rw [HAL.out]; exact HNW.out)
        rw [HAL.out, HSS.out] at h
        exact h
      rw [htw] at v1
      generalize valB (shB (opAt j) ax (ofB W ss)) = vv1 at *
      have H1 := hid v1; have H2 := hid v2
      clear v1 v2 htw HKW HKO HRK
      have q0 := Quiet.refl wK
      go_wp2_with fail
      (with_reducible refine (H1.out.use q0).mono ?_)
      rintro e u1 ⟨rfl, q1⟩
      go_wp2_with fail
      (with_reducible refine (H2.out.use q1).mono ?_)
      rintro e u2 ⟨rfl, q2⟩
      obtain ⟨m2, rfl⟩ := q2
      have hbf := below_drewN HBK.out m2
      have HBF := hid hbf
      clear q0 q1 H1 H2 hbf
      go_wp2
      go_roundw
      case rel =>
        have e1 : (j + 1) * (3 * (W * W)) = j * (3 * (W * W)) + W * W + W * W + W * W := by rw [Nat.succ_mul]; omega
        have hB := HB.out.fr HBF.out
        have hF := HFc3.out.trans (FrB.of_below HB.out.st.c.b HBF.out)
        have hE := HEc3.out
        refine ⟨j + 1, σs3, Fs3, by have := HLT.out; omega, by go_num, ?_, hF, ?_⟩
        · have eV : 2 * W + 1 + (j * (3 * (W * W)) + W * W + W * W + W * W) = 2 * W + 1 + j * (3 * (W * W)) + W * W + W * W + W * W := by omega
          have eK : 1 + 6 * (j * (3 * (W * W)) + W * W + W * W + W * W) = 1 + 6 * (j * (3 * (W * W))) + 6 * (W * W) + 6 * (W * W) + 6 * (W * W) := by omega
          rw [e1, eV, eK]
          exact hB
        · have eK : 6 * (j * (3 * (W * W)) + W * W + W * W + W * W) = 6 * (j * (3 * (W * W))) + 6 * (W * W) + 6 * (W * W) + 6 * (W * W) := by omega
          rw [e1, eK]
          exact hE
      case measure => (have := HLT.out; simp [intOf] <;> omega)
    · obtain rfl : j = 3 := by omega
      have hbw := below_tr' HBC.out hBj.st.fr (Nat.le_refl _)
      have HAW2 := hid (awake18_any wo (HO.out.below hbw HO.out.lt))
      have HBW := hid hbw
      clear hbw hBj hFj hEj
      go_wp2_with fail
      (with_reducible refine HAW2.out.mono ?_)
      rintro e wz ⟨rfl, hbz⟩
      have HBZ := hid (below_tr' HBW.out hbz (Nat.le_refl _))
      clear hbz
      go_wp2
      go_ret
      exact ⟨rfl, HBZ.out⟩

end Go.Proofs.YtjcnhnifageikaaDoor
