/-
  The walk of ShiftMatches.
-/
import Derived.Test.YtjcnhnifageikaaDoorShBy
namespace Go.Proofs.YtjcnhnifageikaaDoor
set_option linter.unusedSimpArgs false
set_option linter.unusedVariables false
open Go.RowKit Go.Shelf
attribute [local go_sem] Oper.semAt_some

set_option maxRecDepth 100000 in
set_option maxHeartbeats 6400000 in
theorem shmatch_walk (z nn : Int) (rl : Bool) (vals : List Bool) (lx ly : List Int) (vv vx vy : Value) (w : World) (hO : Ops w) (hz : -9223372036854775808 ≤ z ∧ z ≤ 9223372036854775807) (hnn : -9223372036854775808 ≤ nn ∧ nn ≤ 9223372036854775807)
    (hv : Bools (· < w.heap.size) w vv vals) (hx : Ints (· < w.heap.size) w vx lx) (hy : Ints (· < w.heap.size) w vy ly)
    (hlx : ∀ x ∈ lx, -9223372036854775808 ≤ x ∧ x ≤ 9223372036854775807) (hly : ∀ x ∈ ly, -9223372036854775808 ≤ x ∧ x ≤ 9223372036854775807) :
    Calls Tryd.prog 3 #[.agg #[.int .i64 z, vv, vx, vy, .int .i64 nn, .bool rl]] w fun e w' => e = .returned (.bool true) ∧ Below w.heap.size w w' := by
  have hb0 : Below w.heap.size w (w.alloc (.cells #[.int .i64 z, vv, vx, vy, .int .i64 nn, .bool rl] 27)) := (Below.refl _ _).alloc (Nat.le_refl _) _
  have hk0 : ∀ k, k < w.heap.size → k < (w.alloc (.cells #[.int .i64 z, vv, vx, vy, .int .i64 nn, .bool rl] 27)).heap.size ∧ (w.alloc (.cells #[.int .i64 z, vv, vx, vy, .int .i64 nn, .bool rl] 27)).heap[k]? = w.heap[k]? := fun k hk => ⟨by simp only [World.size_alloc]; omega, hb0.block k hk⟩
  have hmk := by_mk z nn rl vals lx ly vv vx vy (w.alloc (.cells #[.int .i64 z, vv, vx, vy, .int .i64 nn, .bool rl] 27)) hz hnn (hv.keep hk0) (hx.keep hk0) (hy.keep hk0) hlx ((z % 64).toNat + 1) _ rfl rfl
  have hW1 : 1 ≤ (z % 64).toNat + 1 := by omega
  have hW64 : (z % 64).toNat + 1 ≤ 64 := by omega
  generalize (z % 64).toNat + 1 = W at *
  have hqb : nn % (2 * (W : Int) + 2) = (((nn % (2 * (W : Int) + 2)).toNat : Nat) : Int) := by
    have := Int.emod_nonneg nn (show 2 * (W : Int) + 2 ≠ 0 by omega)
    omega
  have hq2 : (nn % (2 * (W : Int) + 2)).toNat < 2 * W + 2 := by
    have := Int.emod_lt_of_pos nn (show 0 < 2 * (W : Int) + 2 by omega)
    omega
  generalize (nn % (2 * (W : Int) + 2)).toNat = q at *
  obtain ⟨pv, cv, rfl, _, _, _, _⟩ := hv.op
  obtain ⟨px, cx, rfl, _, _, _, _⟩ := hx.op
  obtain ⟨py, cy, rfl, _, _, _, _⟩ := hy.op
  have HMK := hid hmk; have HO := hid hO; have HQB := hid hqb; have HQ2 := hid hq2
  have hc1 : (w.alloc (.cells #[.int .i64 z, .slice pv vals.length cv, .slice px lx.length cx, .slice py ly.length cy, .int .i64 nn, .bool rl] 27)).heap[w.heap.size]? = some (.cells #[.int .i64 z, .slice pv vals.length cv, .slice px lx.length cx, .slice py ly.length cy, .int .i64 nn, .bool rl] 27 (0, 0)) := by rw [heap_al, if_pos rfl]
  have HCB := hid hc1
  clear hmk hk0 hv hx hy hlx hly hO hqb hq2 hc1
  go_enter Tryd.func3, Tryd.ntmps3
  go_wp2_with fail
  have hwcs : (w.alloc (.cells #[.int .i64 z, .slice pv vals.length cv, .slice px lx.length cx, .slice py ly.length cy, .int .i64 nn, .bool rl] 27)).heap.size = w.heap.size + 1 := by simp only [World.size_alloc]
  generalize hwc : World.alloc w _ = wc at *
  clear hwc
  have HBC := hid hb0
  have HMC := hid HMK.out
  have HWS := hid hwcs
  clear hb0 HMK hwcs
  (with_reducible refine HMC.out.mono ?_)
  rintro e w3 ⟨bb, σ0, vin, vval, v1, v2, va, vb, xs, ys, rfl, hC, hxl, hyl, hxo, hyo, ix, iy, ia, ib, hbe, hbb, hlo, hyb⟩
  obtain ⟨pi, ci, rfl, _, _, _⟩ := hC.inp.opn (insM_len _)
  obtain ⟨pw, cw, rfl, _, _, _⟩ := hC.val.opn (valsM_len _ _)
  obtain ⟨p1, c1, rfl, _, _, _⟩ := ix.opn hxl
  obtain ⟨p2, c2, rfl, _, _, _⟩ := iy.opn hyl
  obtain ⟨p3, c3, rfl, _, _, _⟩ := ia.opn (n := W) (by rw [List.length_map]; exact hxl)
  obtain ⟨p4, c4, rfl, _, _, _⟩ := ib.opn (n := W) (by rw [List.length_map]; exact hyl)
  have HB3 := hid (show Bas wc bb (2 * W) _ _ (2 * W + 1) 1 w3 σ0 ⟨2 * W + 1, [[1]]⟩ from ⟨St.mk hC hbe hlo, Nat.le_refl _, Nat.le_refl _⟩)
  have HAL := hid (show (xs.map (litT σ0)).length = W by rw [List.length_map, hxl])
  have HBL := hid (show (ys.map (litT σ0)).length = W by rw [List.length_map, hyl])
  have HK3 := hid (((Kit.nil (bb := bb)).word iy (show LitsAre σ0 ⟨2 * W + 1, [[1]]⟩ ys _ from ⟨hyo, rfl⟩)).word ix (show LitsAre σ0 ⟨2 * W + 1, [[1]]⟩ xs _ from ⟨hxo, rfl⟩))
  have HIA3 := hid ia
  have HIB3 := hid ib
  clear hyb
  clear hC hbe hlo hxl hyl hxo hyo ix iy ia ib hbb
  generalize xs.map (litT σ0) = ax at *
  generalize ys.map (litT σ0) = ay at *
  go_wp2_with fail
  obtain ⟨hB4, hT4, hsz4, hf4⟩ := HB3.out.box _ rfl
  generalize hw4 : World.alloc w3 _ = w4 at *
  clear hw4
  have HB := hid hB4; have HT := hid hT4; have HK := hid (HK3.out.fr hf4); have HIA := hid (HIA3.out.fr hf4); have HIB := hid (HIB3.out.fr hf4)
  have HOC := hid (HO.out.below HBC.out HO.out.lt)
  have hq1 : W * W ≤ 4096 := by
    have := Nat.mul_le_mul hW64 hW64
    omega
  have HQ := hid hq1
  clear hB4 hT4 hsz4 hf4 HB3 HK3 HIA3 HIB3 HMC hq1
  generalize hF4 : (⟨2 * W + 1, [[1]]⟩ : Form) = F4 at *
  have hst : LawI wc w4 bb (2 * W) (2 * W + 1) 1 (.slice pi (2 * W) ci) (.slice pw (2 * W) cw) σ0 F4 W (shN ax ay 0) 0 w4 σ0 F4 (.slice none 0 0) (.slice none 0 0) [] 0 0 :=
    ⟨HB.out, Ext.refl HB.out.st.c.good 0 0, Fr.refl _ _, World.ownsRow_nil _ _ _ _, (fun j hj => by cases hj), World.ownsRow_nil _ _ _ _, (fun j hj => by cases hj), ⟨(fun x hx => by cases hx), rfl⟩, HB.out.st.fr.size, HB.out.st.c.inp, HB.out.st.c.val⟩
  have HST := hid hst
  clear hst hF4
  go_wp2_with fail
  go_loopw [9, 10, 11] (fun vl vw i wr => ∃ (j : Nat) (σj : Nat → Bool) (Fj : Form) (zs : List Int), j ≤ 3 ∧ i = .int .i64 j ∧ LawI wc w4 bb (2 * W) (2 * W + 1) 1 (.slice pi (2 * W) ci) (.slice pw (2 * W) cw) σ0 F4 W (shN ax ay j) (j * W) wr σj Fj vl vw zs (j * (W * W)) (6 * (j * (W * W)))) (fun _ _ i _ => 3 - (intOf i).toNat)
  case atStart => exact ⟨0, σ0, F4, [], by omega, rfl, by simpa using HST.out⟩
  case round =>
    obtain ⟨j, σj, Fj, zs, hj, rfl, hI⟩ := hrel
    obtain ⟨wo, rfl⟩ : ∃ wo : World, wo = wr := ⟨_, rfl⟩
    obtain ⟨pl, cl, rfl⟩ := own_slice hI.ol
    obtain ⟨pt, ct, rfl⟩ := own_slice hI.ow
    by_cases hlt : j < 3
    · have hj3 : (j : Int) < 3 := by omega
      have hjw : j * W + W ≤ 192 := by
        have := Nat.mul_le_mul (show j + 1 ≤ 3 by omega) hW64
        rw [Nat.succ_mul] at this
        omega
      have hjv : j * (W * W) + W * W ≤ 12288 := by
        have := Nat.mul_le_mul (show j + 1 ≤ 3 by omega) HQ.out
        rw [Nat.succ_mul] at this
        omega
      have HLT := hid hlt; have HJW := hid hjw
      have hID := hI.same (show Below wo.heap.size wo wo.drew from ⟨rfl, rfl, rfl, Nat.le_refl _, fun _ _ => rfl⟩)
      have hoo := HOC.out.below hID.bas.st.fr HOC.out.lt
      have hS : (fun W1 : World => (BoxS w3.heap.size (.pointer (some ⟨bb, 0, none⟩)) (.slice pi (2 * W) ci) (.slice pw (2 * W) cw)) W1 ∧ W1.cell? ⟨0, j, none⟩ = some (.int .u8 (opAt j))) wo.drew := ⟨(HT.out.fr hID.fr).boxS, hoo.at' j hlt⟩
      have HC := hid (shift_c j hlt hID.bas (m := W) hW1 hW64 ((HK.out.fr hID.fr).w (.slice p1 W c1, xs, ax) (by simp)).1 ((HK.out.fr hID.fr).w (.slice p2 W c2, ys, ay) (by simp)).1 ((HK.out.w (.slice p1 W c1, xs, ax) (by simp)).2.ext hID.ext) ((HK.out.w (.slice p2 W c2, ys, ay) (by simp)).2.ext hID.ext) HAL.out HBL.out (by omega) (by omega))
      have HID := hid hID
      clear hI hoo hID hlt hjw hjv
      go_wp2_with fail
      have hFa : ∀ f, Fence.wide.fn f := fun _ => trivial
      refine (wpIn_wide (n := 9)).1 ?_
      refine wpIn_onlyN ?_
      refine wpIn_region_HJ (fun W1 : World => (BoxS w3.heap.size (.pointer (some ⟨bb, 0, none⟩)) (.slice pi (2 * W) ci) (.slice pw (2 * W) cw)) W1 ∧ W1.cell? ⟨0, j, none⟩ = some (.int .u8 (opAt j))) 12 (by kernel_rfl) ?_
      simp only [List.size_toArray, List.length_cons, List.length_nil, Nat.reduceAdd]
      refine wpHJ_pure (v := ?va0) 0 hFa rfl (by kernel_rfl) (fun _ _ _ h => h.elim) (Or.inl ⟨by rfl, ?ya0⟩) (.inr hS) ?ra0
      case ya0 => (intro w' _; go_simp; try rfl)
      simp only [Act.put, List.getElem_toArray, List.getElem_cons_succ, List.getElem_cons_zero, List.setIfInBounds_toArray, List.set_cons_zero, List.set_cons_succ]
      refine wpHJ_take (v := ?va1) 1 hFa rfl (by kernel_rfl) (fun _ _ _ h => h.elim) (Or.inl ⟨by rfl, ?ya1⟩) hS ?ra1
      case ya1 => (intro w' hS'; obtain ⟨⟨s1, s2, s3⟩, s4⟩ := hS'; go_simp; try rfl)
      simp only [Act.put, List.getElem_toArray, List.getElem_cons_succ, List.getElem_cons_zero, List.setIfInBounds_toArray, List.set_cons_zero, List.set_cons_succ]
      refine wpHJ_pure (v := ?va2) 2 hFa rfl (by kernel_rfl) (fun _ _ _ h => h.elim) (Or.inl ⟨by rfl, ?ya2⟩) (.inr hS) ?ra2
      case ya2 => (intro w' _; go_simp; try rfl)
      simp only [Act.put, List.getElem_toArray, List.getElem_cons_succ, List.getElem_cons_zero, List.setIfInBounds_toArray, List.set_cons_zero, List.set_cons_succ]
      refine wpHJ_pure (v := ?va3) 3 hFa rfl (by kernel_rfl) (fun _ _ _ h => h.elim) (Or.inl ⟨by rfl, ?ya3⟩) (.inr hS) ?ra3
      case ya3 => (intro w' _; go_simp; try rfl)
      simp only [Act.put, List.getElem_toArray, List.getElem_cons_succ, List.getElem_cons_zero, List.setIfInBounds_toArray, List.set_cons_zero, List.set_cons_succ]
      refine wpHJ_take (v := ?va4) 4 hFa rfl (by kernel_rfl) (fun _ _ _ h => h.elim) (Or.inl ⟨by rfl, ?ya4⟩) hS ?ra4
      case ya4 => (intro w' hS'; obtain ⟨⟨s1, s2, s3⟩, s4⟩ := hS'; go_simp; try rfl)
      simp only [Act.put, List.getElem_toArray, List.getElem_cons_succ, List.getElem_cons_zero, List.setIfInBounds_toArray, List.set_cons_zero, List.set_cons_succ]
      refine wpHJ_pure (v := ?va5) 5 hFa rfl (by kernel_rfl) (fun _ _ _ h => h.elim) (Or.inl ⟨by rfl, ?ya5⟩) (.inr hS) ?ra5
      case ya5 => (intro w' _; go_simp; try rfl)
      simp only [Act.put, List.getElem_toArray, List.getElem_cons_succ, List.getElem_cons_zero, List.setIfInBounds_toArray, List.set_cons_zero, List.set_cons_succ]
      refine wpHJ_pure (v := ?va6) 6 hFa rfl (by kernel_rfl) (fun _ _ _ h => h.elim) (Or.inl ⟨by rfl, ?ya6⟩) (.inr hS) ?ra6
      case ya6 => (intro w' _; go_simp; try rfl)
      simp only [Act.put, List.getElem_toArray, List.getElem_cons_succ, List.getElem_cons_zero, List.setIfInBounds_toArray, List.set_cons_zero, List.set_cons_succ]
      refine wpHJ_only 7 (by kernel_rfl) rfl ?_
      intro K hK
      go_simp
      (with_reducible refine (callsIn_wide.2 HC.out).mono ?_)
      rintro e w9 ⟨v9, zs9, σ9, F9, rfl, hB9, hi9, hl9, hf9, hx9⟩
      have hz9 : zs9.length = W := by rw [hl9.len, shB_len]; exact HAL.out
      obtain ⟨p9, c9, rfl, _, _, _⟩ := hi9.opn hz9
      have hI9 := HID.out.step hB9 hf9 hx9
      have hoo9 := HOC.out.below hB9.st.fr HOC.out.lt
      have hS9 : (fun W1 : World => (BoxS w3.heap.size (.pointer (some ⟨bb, 0, none⟩)) (.slice pi (2 * W) ci) (.slice pw (2 * W) cw)) W1 ∧ W1.cell? ⟨0, j, none⟩ = some (.int .u8 (opAt j))) w9 := ⟨(HT.out.fr hI9.fr).boxS, hoo9.at' j HLT.out⟩
      refine hK _ _ (.inr (.inr hS9)) ?_
      clear hK K
      refine wpHJ_pure (v := ?va8) 8 hFa rfl (by kernel_rfl) (fun _ _ _ h => h.elim) (Or.inl ⟨by rfl, ?ya8⟩) (.inr hS9) ?ra8
      case ya8 => (intro w' _; go_simp; try rfl)
      simp only [Act.put, List.getElem_toArray, List.getElem_cons_succ, List.getElem_cons_zero, List.setIfInBounds_toArray, List.set_cons_zero, List.set_cons_succ]
      refine wpHJ_pure (v := ?va9) 9 hFa rfl (by kernel_rfl) (fun _ _ _ h => h.elim) (Or.inl ⟨by rfl, ?ya9⟩) (.inr hS9) ?ra9
      case ya9 => (intro w' _; go_simp; try rfl)
      simp only [Act.put, List.getElem_toArray, List.getElem_cons_succ, List.getElem_cons_zero, List.setIfInBounds_toArray, List.set_cons_zero, List.set_cons_succ]
      refine wpHJ_pure (v := ?va10) 10 hFa rfl (by kernel_rfl) (fun _ _ _ h => h.elim) (Or.inl ⟨by rfl, ?ya10⟩) (.inr hS9) ?ra10
      case ya10 => (intro w' _; go_simp; try rfl)
      simp only [Act.put, List.getElem_toArray, List.getElem_cons_succ, List.getElem_cons_zero, List.setIfInBounds_toArray, List.set_cons_zero, List.set_cons_succ]
      refine wpHJ_pure (v := ?va11) 11 hFa rfl (by kernel_rfl) (fun _ _ _ h => h.elim) (Or.inl ⟨by rfl, ?ya11⟩) (.inr hS9) ?ra11
      case ya11 => (intro w' _; go_simp; try rfl)
      simp only [Act.put, List.getElem_toArray, List.getElem_cons_succ, List.getElem_cons_zero, List.setIfInBounds_toArray, List.set_cons_zero, List.set_cons_succ]
      refine wpHJ_only 12 (by kernel_rfl) rfl ?_
      intro K hK
      go_simp
      refine hK _ _ (.inl rfl) ?_
      clear hK K
      refine wpHJ_done (by kernel_rfl) ?_ _
      simp only [onlyN, Exit.then]
      clear hFa
      have HI9 := hid (hI9.same (show Below w9.heap.size w9 w9.drew from ⟨rfl, rfl, rfl, Nat.le_refl _, fun _ _ => rfl⟩)); have HR9 := hid (hi9.fr (FrB.of_below hB9.st.c.b (show Below w9.heap.size w9 w9.drew from ⟨rfl, rfl, rfl, Nat.le_refl _, fun _ _ => rfl⟩))); have HZ9 := hid hz9; have HL9 := hid hl9
      have hSq : (fun W1 : World => W1.cell? ⟨0, j, none⟩ = some (.int .u8 (opAt j))) w9.drew := hS9.2
      clear hI9 hi9 hB9 hl9 hf9 hx9 hz9 hoo9 hS9 hS HC HID
      go_wp2_with fail
      have hFa : ∀ f, Fence.wide.fn f := fun _ => trivial
      refine (wpIn_wide (n := 9)).1 ?_
      refine wpIn_onlyN ?_
      refine wpIn_region_HJ (fun W1 : World => W1.cell? ⟨0, j, none⟩ = some (.int .u8 (opAt j))) 12 (by kernel_rfl) ?_
      simp only [List.size_toArray, List.length_cons, List.length_nil, Nat.reduceAdd]
      refine wpHJ_pure (v := ?vb0) 0 hFa rfl (by kernel_rfl) (fun _ _ _ h => h.elim) (Or.inl ⟨by rfl, ?yb0⟩) (.inr hSq) ?rb0
      case yb0 => (intro w' _; go_simp; try rfl)
      simp only [Act.put, List.getElem_toArray, List.getElem_cons_succ, List.getElem_cons_zero, List.setIfInBounds_toArray, List.set_cons_zero, List.set_cons_succ]
      refine wpHJ_pure (v := ?vb1) 1 hFa rfl (by kernel_rfl) (fun _ _ _ h => h.elim) (Or.inl ⟨by rfl, ?yb1⟩) (.inr hSq) ?rb1
      case yb1 => (intro w' _; go_simp; try rfl)
      simp only [Act.put, List.getElem_toArray, List.getElem_cons_succ, List.getElem_cons_zero, List.setIfInBounds_toArray, List.set_cons_zero, List.set_cons_succ]
      refine wpHJ_pure (v := ?vb3) 3 hFa rfl (by kernel_rfl) (fun _ _ _ h => h.elim) (Or.inl ⟨by rfl, ?yb3⟩) (.inr hSq) ?rb3
      case yb3 => (intro w' _; go_simp; try rfl)
      simp only [Act.put, List.getElem_toArray, List.getElem_cons_succ, List.getElem_cons_zero, List.setIfInBounds_toArray, List.set_cons_zero, List.set_cons_succ]
      refine wpHJ_pure (v := ?vb4) 4 hFa rfl (by kernel_rfl) (fun _ _ _ h => h.elim) (Or.inl ⟨by rfl, ?yb4⟩) (.inr hSq) ?rb4
      case yb4 => (intro w' _; go_simp; try rfl)
      simp only [Act.put, List.getElem_toArray, List.getElem_cons_succ, List.getElem_cons_zero, List.setIfInBounds_toArray, List.set_cons_zero, List.set_cons_succ]
      refine wpHJ_pure (v := ?vb5) 5 hFa rfl (by kernel_rfl) (fun _ _ _ h => h.elim) (Or.inl ⟨by rfl, ?yb5⟩) (.inr hSq) ?rb5
      case yb5 => (intro w' _; go_simp; try rfl)
      simp only [Act.put, List.getElem_toArray, List.getElem_cons_succ, List.getElem_cons_zero, List.setIfInBounds_toArray, List.set_cons_zero, List.set_cons_succ]
      refine wpHJ_take (v := ?vb6) 6 hFa rfl (by kernel_rfl) (fun _ _ _ h => h.elim) (Or.inl ⟨by rfl, ?yb6⟩) hSq ?rb6
      case yb6 => (intro w' hS'; obtain s4 := hS'; go_simp; try rfl)
      simp only [Act.put, List.getElem_toArray, List.getElem_cons_succ, List.getElem_cons_zero, List.setIfInBounds_toArray, List.set_cons_zero, List.set_cons_succ]
      refine wpHJ_pure (v := ?vb7) 7 hFa rfl (by kernel_rfl) (fun _ _ _ h => h.elim) (Or.inl ⟨by rfl, ?yb7⟩) (.inr hSq) ?rb7
      case yb7 => (intro w' _; go_simp; try rfl)
      simp only [Act.put, List.getElem_toArray, List.getElem_cons_succ, List.getElem_cons_zero, List.setIfInBounds_toArray, List.set_cons_zero, List.set_cons_succ]
      refine wpHJ_pure (v := ?vb8) 8 hFa rfl (by kernel_rfl) (fun _ _ _ h => h.elim) (Or.inl ⟨by rfl, ?yb8⟩) (.inr hSq) ?rb8
      case yb8 => (intro w' _; go_simp; try rfl)
      simp only [Act.put, List.getElem_toArray, List.getElem_cons_succ, List.getElem_cons_zero, List.setIfInBounds_toArray, List.set_cons_zero, List.set_cons_succ]
      refine wpHJ_only 2 (by kernel_rfl) rfl ?_
      intro K hK
      refine wpIn_app hFa (.tmp 42) (.tmp 43) 23 rfl w4.heap.size 3 (.int .i64 0) 8 Tryd.underlying23 info_int rfl _ (j * W) _ rfl HI9.out.ol p9 W c9 (zs9.map (Value.int .i64)) rfl (by rw [List.length_map, HZ9.out]) HR9.out.row (ints_one _) (by have := HJW.out; omega) (by unfold maxLen; have := HJW.out; omega) HI9.out.fr.size ?_
      intro v10 w10 ho10 hg10 ha10
      simp only [Act.put, List.getElem_toArray, List.getElem_cons_succ, List.getElem_cons_zero, List.setIfInBounds_toArray, List.set_cons_zero, List.set_cons_succ]
      rw [← List.map_append] at ho10
      obtain ⟨q1, q2, q3, q4, q5, q6⟩ := HI9.out.lits (zs2 := zs9) hg10 ho10 ha10
      obtain ⟨p10, c10, rfl⟩ := own_slice ho10
      have hS10 : (fun W1 : World => W1.cell? ⟨0, j, none⟩ = some (.int .u8 (opAt j))) w10 := (HOC.out.below q1.st.fr HOC.out.lt).at' j HLT.out
      have HC9 := hid (refshift_any j HLT.out (.slice p3 W c3) (.slice p4 W c4) ax ay W _ _ w10 (HIA.out.fr q2) (HIB.out.fr q2) (fun k hk => hk.size) hW1 hW64 HAL.out HBL.out)
      have HQ1 := hid q1; have HQ2 := hid q2; have HQ4 := hid q4; have HQ5 := hid q5; have HQ6 := hid q6; have HO10 := hid ho10
      clear q1 q2 q3 q4 q5 q6 ho10 hg10 ha10
      refine hK _ _ (.inr (.inr hS10)) ?_
      clear hK K
      refine wpHJ_only 9 (by kernel_rfl) rfl ?_
      intro K hK
      go_simp
      (with_reducible refine (callsIn_wide.2 HC9.out).mono ?_)
      rintro e w11 ⟨v11, rfl, hi11, hb11⟩
      obtain ⟨p11, c11, rfl, _, _, _⟩ := hi11.opn (n := W) (by rw [shB_len]; exact HAL.out)
      have hf11 := FrB.of_below HQ1.out.st.c.b hb11
      have hB11 := HQ1.out.fr hb11
      have hS11 : (fun W1 : World => W1.cell? ⟨0, j, none⟩ = some (.int .u8 (opAt j))) w11 := (HOC.out.below hB11.st.fr HOC.out.lt).at' j HLT.out
      have hol := owns_keep HO10.out fun k hk => (hf11.keep k (HQ5.out k hk)).2
      have how := owns_keep HQ4.out fun k hk => (hf11.keep k (HQ6.out k hk)).2
      have hal : ∀ k, (Value.slice p10 (j * W + W) c10).ownBlock = some k → Away bb w11 k := fun k hk => (hf11.keep k (HQ5.out k hk)).1
      have haw := fun k hk => (hf11.keep k (HQ6.out k hk)).1
      have HR11 := hid hi11.row; have HB11 := hid hB11; have HF11 := hid (HQ2.out.trans hf11); have HOL := hid hol; have HOW := hid how; have HAA := hid hal; have HAW := hid haw
      clear hol how hal haw hi11 hb11 hf11 hB11 HC9 HQ1 HQ2 HQ4 HQ5 HQ6 HO10
      refine hK _ _ (.inr (.inr hS11)) ?_
      clear hK K
      refine wpHJ_only 10 (by kernel_rfl) rfl ?_
      intro K hK
      refine wpIn_app hFa (.tmp 45) (.tmp 51) 22 rfl w4.heap.size 4 (.bool false) 1 Tryd.underlying22 info_bool rfl _ (j * W) _ rfl HOW.out p11 W c11 ((shB (opAt j) ax ay).map Value.bool) rfl (by rw [List.length_map, shB_len, HAL.out]) HR11.out (bools_one _) (by have := HJW.out; omega) (by unfold maxLen; have := HJW.out; omega) HF11.out.size ?_
      intro v12 w12 ho12 hg12 ha12
      simp only [Act.put, List.getElem_toArray, List.getElem_cons_succ, List.getElem_cons_zero, List.setIfInBounds_toArray, List.set_cons_zero, List.set_cons_succ]
      rw [← List.map_append] at ho12
      have hfin := LawI.want (W := W) HB11.out HI9.out.ext HF11.out HOL.out HAA.out HOW.out HAW.out hg12 ho12 ha12 (show LitsAre σ9 F9 (zs ++ zs9) (shN ax ay j ++ shB (opAt j) ax ay) from ⟨fun x hx => (List.mem_append.1 hx).elim (HI9.out.lz.1 x) (HL9.out.1 x), by rw [List.map_append, HI9.out.lz.2, HL9.out.2]⟩) HI9.out.w3 HI9.out.ci HI9.out.cv
      have HFIN := hid hfin
      have hS12 : (fun W1 : World => W1.cell? ⟨0, j, none⟩ = some (.int .u8 (opAt j))) w12 := (HOC.out.below hfin.bas.st.fr HOC.out.lt).at' j HLT.out
      obtain ⟨p12, c12, rfl⟩ := own_slice ho12
      clear hfin ho12 hg12 ha12 HB11 HF11 HOL HOW HAA HAW HR11
      refine hK _ _ (.inr (.inr hS12)) ?_
      clear hK K
      refine wpHJ_pure (v := ?vb11) 11 hFa rfl (by kernel_rfl) (fun _ _ _ h => h.elim) (Or.inl ⟨by rfl, ?yb11⟩) (.inr hS12) ?rb11
      case yb11 => (intro w' _; go_simp; try rfl)
      simp only [Act.put, List.getElem_toArray, List.getElem_cons_succ, List.getElem_cons_zero, List.setIfInBounds_toArray, List.set_cons_zero, List.set_cons_succ]
      refine wpHJ_only 12 (by kernel_rfl) rfl ?_
      intro K hK
      go_simp
      refine hK _ _ (.inl rfl) ?_
      clear hK K
      refine wpHJ_done (by kernel_rfl) ?_ _
      simp only [onlyN, Exit.then]
      clear hFa
      clear hSq
      go_wp2
      go_roundw
      case rel => exact ⟨j + 1, σ9, F9, zs ++ zs9, by have := HLT.out; omega, by go_num, by
        have e := HFIN.out
        have e1 : (j + 1) * W = j * W + W := Nat.succ_mul j W
        have e2 : (j + 1) * (W * W) = j * (W * W) + W * W := Nat.succ_mul j (W * W)
        rw [e1, e2, Nat.mul_add]
        exact e⟩
      case measure => (have := HLT.out; simp [intOf] <;> omega)
    · obtain rfl : j = 3 := by omega
      have hbits := hI.lz
      have hzl : zs.length = 3 * W := by rw [hbits.len, shN_len, HAL.out]
      have hlit : Ints (Away bb wo) wo (.slice pl (3 * W) cl) zs := Sl.of_owns hI.ol (by omega) hI.al
      have hwant : Bools (Away bb wo) wo (.slice pt (3 * W) ct) (zs.map (litT σj)) := by rw [hbits.2]; exact Sl.of_owns hI.ow (by omega) hI.aw
      have HDE := hid (decided_any bb (2 * W) σj Fj _ _ _ _ zs _ _ wo hI.bas.st.c hlit hwant hbits.1 (fun k hk => hk.size) (fun k hk => hk.size) (by omega))
      have HFR := hid (below_tr' HBC.out hI.bas.st.fr (Nat.le_refl _))
      have hbx := (HT.out.fr hI.fr).boxS
      obtain ⟨b0, b1, b2⟩ := hbx
      clear hbits hzl hlit hwant hI
      go_wp2_with fail
      (with_reducible refine HDE.out.mono ?_)
      rintro e wa ⟨rfl, hba⟩
      have hbw := below_tr' HFR.out hba (Nat.le_refl _)
      have HAW2 := hid (awake18_any wa (HO.out.below hbw HO.out.lt))
      have HBW := hid hbw
      clear hba hbw b0 b1 b2 HDE
      go_wp2_with fail
      (with_reducible refine HAW2.out.mono ?_)
      rintro e wz ⟨rfl, hbz⟩
      have HBZ := hid (below_tr' HBW.out hbz (Nat.le_refl _))
      clear hbz
      go_wp2
      go_ret
      exact ⟨rfl, HBZ.out⟩

end Go.Proofs.YtjcnhnifageikaaDoor
