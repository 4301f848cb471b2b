/-
  The walk of AdderAgain.
-/
import Derived.Test.YtngimdbjcelkeaaRun
import Derived.Test.YtngimdbjcelkeaaAGF
namespace Go.Proofs.Ytngimdbjcelkeaa
set_option linter.unusedSimpArgs false
set_option linter.unusedVariables false
open Go.RowKit Go.Shelf
attribute [local go_sem] Oper.semAt_some

set_option maxRecDepth 100000 in
set_option maxHeartbeats 6400000 in
theorem again_walk (z : Int) (vals : List Bool) (lx ly : List Int) (vv vx vy : Value) (w : World) (hz : -9223372036854775808 ≤ z ∧ z ≤ 9223372036854775807)
    (hv : Bools (· < w.heap.size) w vv vals) (hx : Ints (· < w.heap.size) w vx lx) (hy : Ints (· < w.heap.size) w vy ly)
    (hlx : ∀ x ∈ lx, -9223372036854775808 ≤ x ∧ x ≤ 9223372036854775807) (hly : ∀ x ∈ ly, -9223372036854775808 ≤ x ∧ x ≤ 9223372036854775807) :
    Calls Try.prog 4 #[.agg #[.int .i64 z, vv, vx, vy]] w fun e w' => e = .returned (.bool true) ∧ Below w.heap.size w w' := by
  have hb0 : Below w.heap.size w (w.alloc (.cells #[.int .i64 z, vv, vx, vy] 25)) := (Below.refl _ _).alloc (Nat.le_refl _) _
  have hk0 : ∀ k, k < w.heap.size → k < (w.alloc (.cells #[.int .i64 z, vv, vx, vy] 25)).heap.size ∧ (w.alloc (.cells #[.int .i64 z, vv, vx, vy] 25)).heap[k]? = w.heap[k]? := fun k hk => ⟨by simp only [World.size_alloc]; omega, hb0.block k hk⟩
  have hmk := make_mk z vals lx ly vv vx vy (w.alloc (.cells #[.int .i64 z, vv, vx, vy] 25)) hz (hv.keep hk0) (hx.keep hk0) (hy.keep hk0) hlx hly ((z % 64).toNat + 1) rfl
  have hW1 : 1 ≤ (z % 64).toNat + 1 := by omega
  have hW64 : (z % 64).toNat + 1 ≤ 64 := by omega
  generalize (z % 64).toNat + 1 = W at *
  obtain ⟨pv, cv, rfl, _, _, _, _⟩ := hv.op
  obtain ⟨px, cx, rfl, _, _, _, _⟩ := hx.op
  obtain ⟨py, cy, rfl, _, _, _, _⟩ := hy.op
  have HMK := hid hmk; have HB0 := hid hb0
  clear hmk hb0 hk0 hv hx hy hlx hly
  go_enter Try.func4, Try.ntmps4
  go_wp2_with (go_at_call 23; refine HMK.out.mono ?_; rintro e w3 ⟨bb, σ0, vin, vval, v1, v2, va, vb, xs, ys, rfl, hC, hxl, hyl, hxo, hyo, ix, iy, ia, ib, hbe, hbb, hlo⟩; obtain ⟨pi, ci, rfl, _, _, _⟩ := hC.inp.opn (insM_len _); obtain ⟨pw, cw, rfl, _, _, _⟩ := hC.val.opn (valsM_len _ _); obtain ⟨p1, c1, rfl, _, _, _⟩ := ix.opn hxl; obtain ⟨p2, c2, rfl, _, _, _⟩ := iy.opn hyl; obtain ⟨p3, c3, rfl, _, _, _⟩ := ia.opn (n := W) (by rw [List.length_map]; exact hxl); obtain ⟨p4, c4, rfl, _, _, _⟩ := ib.opn (n := W) (by rw [List.length_map]; exact hyl); have HR := hid (Run.mk (V := 2 * W + 1) (K := 1) (St.mk hC hbe hlo) hxl hyl hxo hyo rfl rfl ix iy ia ib (Nat.le_refl _) (Nat.le_refl _)); have HAL := hid (show (xs.map (litT σ0)).length = W by rw [List.length_map, hxl]); have HBL := hid (show (ys.map (litT σ0)).length = W by rw [List.length_map, hyl]); clear hC hbe hlo hxl hyl hxo hyo ix iy ia ib hbb; generalize xs.map (litT σ0) = ax at *; generalize ys.map (litT σ0) = ay at *)
  -- the box; Pick
  obtain ⟨hR4, hT4, hsz4, hf4⟩ := HR.out.box _ rfl
  generalize hw4 : World.alloc w3 _ = w4 at *
  clear hw4
  have HR4 := hid hR4; have HT4 := hid hT4; have HSZ4 := hid hsz4
  clear hR4 hT4 hf4 hsz4
  have hr2 := HR4.out.iy.row
  have HRY := hid hr2
  have HYL := hid HR4.out.yl
  have hbd : ∀ y ∈ ys, -9223372036854775807 ≤ y ∧ y ≤ 9223372036854775807 := fun y hy => lit_i64 HR4.out.st.c.b.vars (HR4.out.oy y hy)
  have HBD := hid hbd
  clear hr2 hbd
  go_wp2_with fail
  go_loopw [9, 10] (fun v i wr => ∃ (k : Nat), k ≤ W ∧ i = .int .i64 k ∧ wr.ownsRow w4.heap.size 3 1 v k (((ys.map (-·)).take k).map (Value.int .i64)) ∧ Below w4.heap.size w4 wr) (fun _ i _ => W - (intOf i).toNat)
  case atStart => exact ⟨0, Nat.zero_le _, rfl, World.ownsRow_nil _ _ _ _, Below.refl _ _⟩
  case round =>
    obtain ⟨k, hk, rfl, hown, hbel⟩ := hrel
    obtain ⟨wo, rfl⟩ : ∃ wo : World, wo = wr := ⟨_, rfl⟩
    obtain ⟨po, co, rfl⟩ := own_slice hown
    by_cases hlt : k < W
    · have hky : k < ys.length := by rw [HYL.out]; exact hlt
      obtain ⟨b1, o1, rfl, hR1, hcc1⟩ := HRY.out.atI k hky
      have d1 := (hbel.cell (p := ⟨b1, o1 + k, none⟩) hR1.size).trans (hcc1 k hky)
      have hsn : (ys.map (-·)).take (k + 1) = (ys.map (-·)).take k ++ [-ys[k]] := by
        rw [List.take_succ_eq_append_getElem (by simpa using hky)]; simp
      obtain ⟨n1, n2⟩ := HBD.out _ (List.getElem_mem hky)
      have HSN := hid hsn; have HBE := hid hbel; have HO := hid hown
      have hws := hbel.size
      clear hown hbel hsn hcc1 HT4 HR4 HRY
      generalize ys[k] = y at *
      go_wp2_with (at_builtin; refine wpList_app _ rfl (.tmp 59) (.tmp 65) 23 rfl w4.heap.size 3 (.int .i64 0) 8 Try.underlying23 info_int rfl _ k _ rfl (HO.out.alloc _) (some ⟨wo.heap.size, 0, none⟩) 1 1 [.int .i64 (-y)] rfl rfl (RowR.one _ _ _) (by simp [Value.oneCell']) (by omega) (by unfold maxLen; omega) (by rw [World.size_alloc]; omega) ?_; intro v' w6 hown6 hg6 _; have HO6 := hid hown6; have HG6 := hid hg6; clear hown6 hg6)
      go_roundw
      case rel => exact ⟨k + 1, by omega, by go_num, by rw [HSN.out, List.map_append]; exact HO6.out, below_one HBE.out hws HG6.out (fun j hj => (HO.out.lt _ hj).1)⟩
      case measure => simp [intOf]; omega
    · obtain rfl : W = k := by omega
      have HBE := hid hbel; have HO := hid hown
      clear hown hbel
      have hneg0 := HO.out
      rw [List.take_of_length_le (by rw [List.length_map, HYL.out]; exact Nat.le_refl _)] at hneg0
      have hRw := HR4.out.fr HBE.out
      have hTw := HT4.out.fr (FrB.of_below HR4.out.st.c.b HBE.out)
      have hineg : Ints (Away bb wo) wo (.slice po W co) (ys.map (-·)) := Sl.of_owns hneg0 (by omega) (fun j hj => HR4.out.st.c.b.away_new HBE.out (hneg0.lt j hj).1 (hneg0.lt j hj).2)
      have hlneg : LitsAre σ0 ⟨2 * W + 1, [[1]]⟩ (ys.map (-·)) (ay.map (!·)) := by
        refine ⟨fun x hx => ?_, ?_⟩
        · obtain ⟨y, hy, rfl⟩ := List.mem_map.1 hx
          exact ok_neg (hRw.oy y hy)
        · rw [← hRw.by', List.map_map, List.map_map]
          exact List.map_congr_left fun y hy => litT_neg _ (lit_ne (hRw.oy y hy))
      have HRW := hid hRw; have HTW := hid hTw; have HIN := hid hineg; have HLN := hid hlneg
      clear hneg0 hRw hTw hineg hlneg HO HBE HR4 HT4 HRY
      go_wp2_with fail
      have t0 : wo.drew.cell? ⟨w3.heap.size, 0, none⟩ = some (.pointer (some ⟨bb, 0, none⟩)) := by show wo.cell? _ = _; rw [cell_of_cells HTW.out.2]; rfl
      have t1 : wo.drew.cell? ⟨w3.heap.size, 1, none⟩ = some (.slice pi (2 * W) ci) := by show wo.cell? _ = _; rw [cell_of_cells HTW.out.2]; rfl
      have t2 : wo.drew.cell? ⟨w3.heap.size, 2, none⟩ = some (.slice pw (2 * W) cw) := by show wo.cell? _ = _; rw [cell_of_cells HTW.out.2]; rfl
      have hFa : ∀ f, Fence.wide.fn f := fun _ => trivial
      have hbd : Below wo.heap.size wo wo.drew := ⟨rfl, rfl, rfl, Nat.le_refl _, fun _ _ => rfl⟩
      have HRD := hid (HRW.out.fr hbd); have HTD := hid (HTW.out.fr (FrB.of_below HRW.out.st.c.b hbd)); have HIND := hid (HIN.out.fr (FrB.of_below HRW.out.st.c.b hbd))
      have hL1 : LitIs σ0 ⟨2 * W + 1, [[1]]⟩ (-1) false := ⟨ok_neg HRD.out.st.c.good.ok1, by rw [litT_neg _ (by decide), HRD.out.st.c.good.t1]; rfl⟩
      have HADD := hid (HRD.out.add hW1 hW64 hL1 (by omega) (by omega))
      clear hbd hL1 HRW HTW HIN
      have hS : (BoxS w3.heap.size (.pointer (some ⟨bb, 0, none⟩)) (.slice pi (2 * W) ci) (.slice pw (2 * W) cw)) wo.drew := HTD.out.boxS
      have HK0 := hid ((Kit.nil (bb := bb)).word HIND.out HLN.out)
      refine (wpIn_wide (n := 9)).1 ?_
      refine wpIn_onlyN ?_
      refine wpIn_region_HJ (BoxS w3.heap.size (.pointer (some ⟨bb, 0, none⟩)) (.slice pi (2 * W) ci) (.slice pw (2 * W) cw)) 13 (by kernel_rfl) ?_
      simp only [List.size_toArray, List.length_cons, List.length_nil, Nat.reduceAdd]
      refine wpHJ_pure (v := ?va0) 0 hFa rfl (by kernel_rfl) (fun _ _ _ h => h.elim) (Or.inl ⟨by rfl, ?ya0⟩) (.inr hS) ?ra0
      case ya0 => (intro w' _; go_simp; try rfl)
      simp only [Act.put, List.getElem_toArray, List.getElem_cons_succ, List.getElem_cons_zero, List.setIfInBounds_toArray, List.set_cons_zero, List.set_cons_succ]
      refine wpHJ_take (v := ?va1) 1 hFa rfl (by kernel_rfl) (fun _ _ _ h => h.elim) (Or.inl ⟨by rfl, ?ya1⟩) hS ?ra1
      case ya1 => (intro w' hS'; obtain ⟨s1, s2, s3⟩ := hS'; go_simp; try rfl)
      simp only [Act.put, List.getElem_toArray, List.getElem_cons_succ, List.getElem_cons_zero, List.setIfInBounds_toArray, List.set_cons_zero, List.set_cons_succ]
      refine wpHJ_pure (v := ?va2) 2 hFa rfl (by kernel_rfl) (fun _ _ _ h => h.elim) (Or.inl ⟨by rfl, ?ya2⟩) (.inr hS) ?ra2
      case ya2 => (intro w' _; go_simp; try rfl)
      simp only [Act.put, List.getElem_toArray, List.getElem_cons_succ, List.getElem_cons_zero, List.setIfInBounds_toArray, List.set_cons_zero, List.set_cons_succ]
      refine wpHJ_pure (v := ?va3) 3 hFa rfl (by kernel_rfl) (fun _ _ _ h => h.elim) (Or.inl ⟨by rfl, ?ya3⟩) (.inr hS) ?ra3
      case ya3 => (intro w' _; go_simp; try rfl)
      simp only [Act.put, List.getElem_toArray, List.getElem_cons_succ, List.getElem_cons_zero, List.setIfInBounds_toArray, List.set_cons_zero, List.set_cons_succ]
      refine wpHJ_pure (v := ?va4) 4 hFa rfl (by kernel_rfl) (fun _ _ _ h => h.elim) (Or.inl ⟨by rfl, ?ya4⟩) (.inr hS) ?ra4
      case ya4 => (intro w' _; go_simp; try rfl)
      simp only [Act.put, List.getElem_toArray, List.getElem_cons_succ, List.getElem_cons_zero, List.setIfInBounds_toArray, List.set_cons_zero, List.set_cons_succ]
      refine wpHJ_take (v := ?va5) 5 hFa rfl (by kernel_rfl) (fun _ _ _ h => h.elim) (Or.inl ⟨by rfl, ?ya5⟩) hS ?ra5
      case ya5 => (intro w' hS'; obtain ⟨s1, s2, s3⟩ := hS'; go_simp; try rfl)
      simp only [Act.put, List.getElem_toArray, List.getElem_cons_succ, List.getElem_cons_zero, List.setIfInBounds_toArray, List.set_cons_zero, List.set_cons_succ]
      refine wpHJ_only 6 (by kernel_rfl) rfl ?_
      intro K hK
      go_simp
      refine (callsIn_wide.2 (true_any bb _)).mono ?_
      rintro e w' ⟨rfl, rfl⟩
      refine hK _ _ (.inr (.inr hS)) ?_
      clear hK K
      refine wpHJ_pure (v := ?va7) 7 hFa rfl (by kernel_rfl) (fun _ _ _ h => h.elim) (Or.inl ⟨by rfl, ?ya7⟩) (.inr hS) ?ra7
      case ya7 => (intro w' _; go_simp; try rfl)
      simp only [Act.put, List.getElem_toArray, List.getElem_cons_succ, List.getElem_cons_zero, List.setIfInBounds_toArray, List.set_cons_zero, List.set_cons_succ]
      refine wpHJ_only 8 (by kernel_rfl) rfl ?_
      intro K hK
      go_simp
      rw [wrap_m1]
      (with_reducible refine (callsIn_wide.2 HADD.out).mono ?_)
      rintro e w6 ⟨v6, zs6, σ6, F6, rfl, hR6, hi6, hB6, hf6, hx6⟩
      have hl6 : zs6.length = W := by rw [hB6.len]; exact (addB_len _ _ _ (by rw [HAL.out, HBL.out])).trans HAL.out
      obtain ⟨p6, c6, rfl, _, _, _⟩ := hi6.opn hl6
      have hT6 := HTD.out.fr hf6
      have hS6 := hT6.boxS
      have HL6 := hid hl6
      have HR6 := hid hR6; have HT6 := hid hT6; have HK6 := hid ((HK0.out.step hf6 hx6).word hi6 hB6)
      clear hR6 hT6 hi6 hB6 hf6 hx6 hl6 HADD hS
      refine hK _ _ (.inr (.inr hS6)) ?_
      clear hK K
      refine wpHJ_pure (v := ?va9) 9 hFa rfl (by kernel_rfl) (fun _ _ _ h => h.elim) (Or.inl ⟨by rfl, ?ya9⟩) (.inr hS6) ?ra9
      case ya9 => (intro w' _; go_simp; try rfl)
      simp only [Act.put, List.getElem_toArray, List.getElem_cons_succ, List.getElem_cons_zero, List.setIfInBounds_toArray, List.set_cons_zero, List.set_cons_succ]
      refine wpHJ_pure (v := ?va10) 10 hFa rfl (by kernel_rfl) (fun _ _ _ h => h.elim) (Or.inl ⟨by rfl, ?ya10⟩) (.inr hS6) ?ra10
      case ya10 => (intro w' _; go_simp; try rfl)
      simp only [Act.put, List.getElem_toArray, List.getElem_cons_succ, List.getElem_cons_zero, List.setIfInBounds_toArray, List.set_cons_zero, List.set_cons_succ]
      refine wpHJ_pure (v := ?va11) 11 hFa rfl (by kernel_rfl) (fun _ _ _ h => h.elim) (Or.inl ⟨by rfl, ?ya11⟩) (.inr hS6) ?ra11
      case ya11 => (intro w' _; go_simp; try rfl)
      simp only [Act.put, List.getElem_toArray, List.getElem_cons_succ, List.getElem_cons_zero, List.setIfInBounds_toArray, List.set_cons_zero, List.set_cons_succ]
      refine wpHJ_pure (v := ?va12) 12 hFa rfl (by kernel_rfl) (fun _ _ _ h => h.elim) (Or.inl ⟨by rfl, ?ya12⟩) (.inr hS6) ?ra12
      case ya12 => (intro w' _; go_simp; try rfl)
      simp only [Act.put, List.getElem_toArray, List.getElem_cons_succ, List.getElem_cons_zero, List.setIfInBounds_toArray, List.set_cons_zero, List.set_cons_succ]
      refine wpHJ_only 13 (by kernel_rfl) rfl ?_
      intro K hK
      go_simp
      refine hK _ _ (.inl rfl) ?_
      clear hK K
      refine wpHJ_done (by kernel_rfl) ?_ _
      simp only [onlyN, Exit.then]
      have HC7 := hid (HR6.out.subG hW1 hW64 (HK6.out.w _ (List.mem_cons_self ..)).1 HR6.out.iy (HK6.out.w _ (List.mem_cons_self ..)).2 ⟨HR6.out.oy, HR6.out.by'⟩ ((addB_len _ _ _ (by rw [HAL.out, HBL.out])).trans HAL.out) HBL.out (by omega) (by omega))
      obtain ⟨b60, b61, b62⟩ := hS6
      go_wp2_with fail
      (with_reducible refine HC7.out.mono ?_)
      rintro e w7 ⟨v7, zs7, σ7, F7, rfl, hR7, hi7, hB7, hf7, hx7⟩
      have hl7 : zs7.length = W := by rw [hB7.len]; exact (addB_len _ _ _ (by rw [List.length_map, (addB_len _ _ _ (by rw [HAL.out, HBL.out])).trans HAL.out, HBL.out])).trans ((addB_len _ _ _ (by rw [HAL.out, HBL.out])).trans HAL.out)
      obtain ⟨p7, c7, rfl, _, _, _⟩ := hi7.opn hl7
      have hT7 := HT6.out.fr hf7
      have hS7 := hT7.boxS
      have HL7 := hid hl7
      have HR7 := hid hR7; have HT7 := hid hT7; have HK7 := hid ((HK6.out.step hf7 hx7).word hi7 hB7)
      clear hR7 hT7 hi7 hB7 hf7 hx7 hl7 HC7 b60 b61 b62
      have HC8 := hid (HR7.out.sub hW1 hW64 (by omega) (by omega))
      obtain ⟨b70, b71, b72⟩ := hS7
      go_wp2_with fail
      (with_reducible refine HC8.out.mono ?_)
      rintro e w8 ⟨v8, zs8, σ8, F8, rfl, hR8, hi8, hB8, hf8, hx8⟩
      have hl8 : zs8.length = W := by rw [hB8.len]; exact (addB_len _ _ _ (by rw [List.length_map, HAL.out, HBL.out])).trans HAL.out
      obtain ⟨p8, c8, rfl, _, _, _⟩ := hi8.opn hl8
      have hT8 := HT7.out.fr hf8
      have hS8 := hT8.boxS
      have HL8 := hid hl8
      have HR8 := hid hR8; have HT8 := hid hT8; have HK8 := hid ((HK7.out.step hf8 hx8).word hi8 hB8)
      clear hR8 hT8 hi8 hB8 hf8 hx8 hl8 HC8 b70 b71 b72
      have HC9 := hid (HR8.out.addG hW1 hW64 HR8.out.ix (HK8.out.w (.slice po W co, ys.map (-·), ay.map (!·)) (by simp)).1 ⟨HR8.out.ox, HR8.out.bx⟩ (HK8.out.w (.slice po W co, ys.map (-·), ay.map (!·)) (by simp)).2 HAL.out (by rw [List.length_map]; exact HBL.out) (show LitIs σ8 F8 1 true from ⟨HR8.out.st.c.good.ok1, HR8.out.st.c.good.t1⟩) (by omega) (by omega))
      have hR8' := HR8.out
      have hS8d := hS8.drew
      go_wp2_with fail
      have hbd : Below w8.heap.size w8 w8.drew := ⟨rfl, rfl, rfl, Nat.le_refl _, fun _ _ => rfl⟩
      have hRd := hR8'.fr hbd
      have hfd := FrB.of_below hR8'.st.c.b hbd
      have HTd := hid (HT8.out.fr hfd); have HKd := hid (HK8.out.fr hfd)
      have HCd := hid (hRd.addG hW1 hW64 hRd.ix (HKd.out.w (.slice po W co, ys.map (-·), ay.map (!·)) (by simp)).1 ⟨hRd.ox, hRd.bx⟩ (HKd.out.w (.slice po W co, ys.map (-·), ay.map (!·)) (by simp)).2 HAL.out (by rw [List.length_map]; exact HBL.out) (show LitIs σ8 F8 1 true from ⟨hRd.st.c.good.ok1, hRd.st.c.good.t1⟩) (by omega) (by omega))
      clear hbd hRd hfd hR8' HC9 hS8
      refine (wpIn_wide (n := 9)).1 ?_
      refine wpIn_onlyN ?_
      refine wpIn_region_HJ (BoxS w3.heap.size (.pointer (some ⟨bb, 0, none⟩)) (.slice pi (2 * W) ci) (.slice pw (2 * W) cw)) 12 (by kernel_rfl) ?_
      simp only [List.size_toArray, List.length_cons, List.length_nil, Nat.reduceAdd]
      refine wpHJ_pure (v := ?vb0) 0 hFa rfl (by kernel_rfl) (fun _ _ _ h => h.elim) (Or.inl ⟨by rfl, ?yb0⟩) (.inr hS8d) ?rb0
      case yb0 => (intro w' _; go_simp; try rfl)
      simp only [Act.put, List.getElem_toArray, List.getElem_cons_succ, List.getElem_cons_zero, List.setIfInBounds_toArray, List.set_cons_zero, List.set_cons_succ]
      refine wpHJ_take (v := ?vb1) 1 hFa rfl (by kernel_rfl) (fun _ _ _ h => h.elim) (Or.inl ⟨by rfl, ?yb1⟩) hS8d ?rb1
      case yb1 => (intro w' hS'; obtain ⟨s1, s2, s3⟩ := hS'; go_simp; try rfl)
      simp only [Act.put, List.getElem_toArray, List.getElem_cons_succ, List.getElem_cons_zero, List.setIfInBounds_toArray, List.set_cons_zero, List.set_cons_succ]
      refine wpHJ_pure (v := ?vb2) 2 hFa rfl (by kernel_rfl) (fun _ _ _ h => h.elim) (Or.inl ⟨by rfl, ?yb2⟩) (.inr hS8d) ?rb2
      case yb2 => (intro w' _; go_simp; try rfl)
      simp only [Act.put, List.getElem_toArray, List.getElem_cons_succ, List.getElem_cons_zero, List.setIfInBounds_toArray, List.set_cons_zero, List.set_cons_succ]
      refine wpHJ_pure (v := ?vb3) 3 hFa rfl (by kernel_rfl) (fun _ _ _ h => h.elim) (Or.inl ⟨by rfl, ?yb3⟩) (.inr hS8d) ?rb3
      case yb3 => (intro w' _; go_simp; try rfl)
      simp only [Act.put, List.getElem_toArray, List.getElem_cons_succ, List.getElem_cons_zero, List.setIfInBounds_toArray, List.set_cons_zero, List.set_cons_succ]
      refine wpHJ_pure (v := ?vb4) 4 hFa rfl (by kernel_rfl) (fun _ _ _ h => h.elim) (Or.inl ⟨by rfl, ?yb4⟩) (.inr hS8d) ?rb4
      case yb4 => (intro w' _; go_simp; try rfl)
      simp only [Act.put, List.getElem_toArray, List.getElem_cons_succ, List.getElem_cons_zero, List.setIfInBounds_toArray, List.set_cons_zero, List.set_cons_succ]
      refine wpHJ_take (v := ?vb5) 5 hFa rfl (by kernel_rfl) (fun _ _ _ h => h.elim) (Or.inl ⟨by rfl, ?yb5⟩) hS8d ?rb5
      case yb5 => (intro w' hS'; obtain ⟨s1, s2, s3⟩ := hS'; go_simp; try rfl)
      simp only [Act.put, List.getElem_toArray, List.getElem_cons_succ, List.getElem_cons_zero, List.setIfInBounds_toArray, List.set_cons_zero, List.set_cons_succ]
      refine wpHJ_only 6 (by kernel_rfl) rfl ?_
      intro K hK
      go_simp
      refine (callsIn_wide.2 (true_any bb _)).mono ?_
      rintro e w' ⟨rfl, rfl⟩
      refine hK _ _ (.inr (.inr hS8d)) ?_
      clear hK K
      refine wpHJ_only 7 (by kernel_rfl) rfl ?_
      intro K hK
      go_simp
      (with_reducible refine (callsIn_wide.2 HCd.out).mono ?_)
      rintro e w9 ⟨v9, zs9, σ9, F9, rfl, hR9, hi9, hB9, hf9, hx9⟩
      have hl9 : zs9.length = W := by rw [hB9.len]; exact (addB_len _ _ _ (by rw [List.length_map, HAL.out, HBL.out])).trans HAL.out
      obtain ⟨p9, c9, rfl, _, _, _⟩ := hi9.opn hl9
      have hT9 := HTd.out.fr hf9
      have hS9 := hT9.boxS
      have HL9 := hid hl9
      have HR9 := hid hR9; have HT9 := hid hT9; have HK9 := hid ((HKd.out.step hf9 hx9).word hi9 hB9)
      clear hR9 hT9 hi9 hB9 hf9 hx9 hl9 HCd hS8d
      refine hK _ _ (.inr (.inr hS9)) ?_
      clear hK K
      refine wpHJ_pure (v := ?vb8) 8 hFa rfl (by kernel_rfl) (fun _ _ _ h => h.elim) (Or.inl ⟨by rfl, ?yb8⟩) (.inr hS9) ?rb8
      case yb8 => (intro w' _; go_simp; try rfl)
      simp only [Act.put, List.getElem_toArray, List.getElem_cons_succ, List.getElem_cons_zero, List.setIfInBounds_toArray, List.set_cons_zero, List.set_cons_succ]
      refine wpHJ_pure (v := ?vb9) 9 hFa rfl (by kernel_rfl) (fun _ _ _ h => h.elim) (Or.inl ⟨by rfl, ?yb9⟩) (.inr hS9) ?rb9
      case yb9 => (intro w' _; go_simp; try rfl)
      simp only [Act.put, List.getElem_toArray, List.getElem_cons_succ, List.getElem_cons_zero, List.setIfInBounds_toArray, List.set_cons_zero, List.set_cons_succ]
      refine wpHJ_pure (v := ?vb10) 10 hFa rfl (by kernel_rfl) (fun _ _ _ h => h.elim) (Or.inl ⟨by rfl, ?yb10⟩) (.inr hS9) ?rb10
      case yb10 => (intro w' _; go_simp; try rfl)
      simp only [Act.put, List.getElem_toArray, List.getElem_cons_succ, List.getElem_cons_zero, List.setIfInBounds_toArray, List.set_cons_zero, List.set_cons_succ]
      refine wpHJ_pure (v := ?vb11) 11 hFa rfl (by kernel_rfl) (fun _ _ _ h => h.elim) (Or.inl ⟨by rfl, ?yb11⟩) (.inr hS9) ?rb11
      case yb11 => (intro w' _; go_simp; try rfl)
      simp only [Act.put, List.getElem_toArray, List.getElem_cons_succ, List.getElem_cons_zero, List.setIfInBounds_toArray, List.set_cons_zero, List.set_cons_succ]
      refine wpHJ_only 12 (by kernel_rfl) rfl ?_
      intro K hK
      go_simp
      refine hK _ _ (.inl rfl) ?_
      clear hK K
      refine wpHJ_done (by kernel_rfl) ?_ _
      simp only [onlyN, Exit.then]
      have HC10 := hid (HR9.out.less hW1 hW64 false (by omega) (by omega))
      obtain ⟨b90, b91, b92⟩ := hS9
      go_wp2_with fail
      (with_reducible refine HC10.out.mono ?_)
      rintro e w10 ⟨z10, σ10, F10, rfl, hR10, hB10, hf10, hx10⟩
      have hT10 := HT9.out.fr hf10
      have hS10 := hT10.boxS
      have HR10 := hid hR10; have HT10 := hid hT10; have HK10 := hid ((HK9.out.step hf10 hx10).lit hB10)
      clear hR10 hT10 hB10 hf10 hx10 HC10 b90 b91 b92
      have HC11 := hid (HR10.out.more hW1 hW64 false (by omega) (by omega))
      obtain ⟨b100, b101, b102⟩ := hS10
      go_wp2_with fail
      (with_reducible refine HC11.out.mono ?_)
      rintro e w11 ⟨z11, σ11, F11, rfl, hR11, hB11, hf11, hx11⟩
      have hT11 := HT10.out.fr hf11
      have hS11 := hT11.boxS
      have HR11 := hid hR11; have HT11 := hid hT11; have HK11 := hid ((HK10.out.step hf11 hx11).lit hB11)
      clear hR11 hT11 hB11 hf11 hx11 HC11 b100 b101 b102
      have HC12 := hid (HR11.out.equal hW1 hW64 (by omega) (by omega))
      obtain ⟨b110, b111, b112⟩ := hS11
      go_wp2_with fail
      (with_reducible refine HC12.out.mono ?_)
      rintro e w12 ⟨z12, σ12, F12, rfl, hR12, hB12, hf12, hx12⟩
      have hT12 := HT11.out.fr hf12
      have hS12 := hT12.boxS
      have HR12 := hid hR12; have HT12 := hid hT12; have HK12 := hid ((HK11.out.step hf12 hx12).lit hB12)
      clear hR12 hT12 hB12 hf12 hx12 HC12 b110 b111 b112
      have hSd := hS12.drew
      clear hS12
      go_wp2_with fail
      have hbd : Below w12.heap.size w12 w12.drew := ⟨rfl, rfl, rfl, Nat.le_refl _, fun _ _ => rfl⟩
      have hCd := HR12.out.st.c.below hbd
      have hlt := HT12.out.lt
      have HCd := hid hCd
      clear hbd hCd
      refine (wpIn_wide (n := 9)).1 ?_
      refine wpIn_onlyN ?_
      refine wpIn_region_HJ (BoxS w3.heap.size (.pointer (some ⟨bb, 0, none⟩)) (.slice pi (2 * W) ci) (.slice pw (2 * W) cw)) 10 (by kernel_rfl) ?_
      simp only [List.size_toArray, List.length_cons, List.length_nil, Nat.reduceAdd]
      refine wpHJ_pure (v := ?vc0) 0 hFa rfl (by kernel_rfl) (fun _ _ _ h => h.elim) (Or.inl ⟨by rfl, ?yc0⟩) (.inr hSd) ?rc0
      case yc0 => (intro w' _; go_simp; try rfl)
      simp only [Act.put, List.getElem_toArray, List.getElem_cons_succ, List.getElem_cons_zero, List.setIfInBounds_toArray, List.set_cons_zero, List.set_cons_succ]
      refine wpHJ_take (v := ?vc1) 1 hFa rfl (by kernel_rfl) (fun _ _ _ h => h.elim) (Or.inl ⟨by rfl, ?yc1⟩) hSd ?rc1
      case yc1 => (intro w' hS'; obtain ⟨s1, s2, s3⟩ := hS'; go_simp; try rfl)
      simp only [Act.put, List.getElem_toArray, List.getElem_cons_succ, List.getElem_cons_zero, List.setIfInBounds_toArray, List.set_cons_zero, List.set_cons_succ]
      refine wpHJ_take (v := ?vc3) 3 hFa rfl (by kernel_rfl) (fun _ _ _ h => h.elim) (Or.inl ⟨by rfl, ?yc3⟩) hSd ?rc3
      case yc3 => (intro w' hS'; obtain ⟨s1, s2, s3⟩ := hS'; go_simp; try rfl)
      simp only [Act.put, List.getElem_toArray, List.getElem_cons_succ, List.getElem_cons_zero, List.setIfInBounds_toArray, List.set_cons_zero, List.set_cons_succ]
      refine wpHJ_only 2 (by kernel_rfl) rfl ?_
      intro K hK
      go_simp
      (with_reducible refine (callsIn_wide.2 (formula_any bb _ _ HCd.out.b (good_len HCd.out.good))).mono ?_)
      rintro e wF ⟨vc, rfl, hLL, hbF⟩
      obtain ⟨pc, cc, vs, rfl, _, _, _, _, _, _⟩ := hLL.op
      have hSF := BoxS.below hSd hbF hlt
      refine hK _ _ (.inr (.inr hSF)) ?_
      clear hK K
      refine wpHJ_only 4 (by kernel_rfl) rfl ?_
      intro K hK
      go_simp
      (with_reducible refine (callsIn_wide.2 (asm_c (HCd.out.below hbF))).mono ?_)
      rintro e wA ⟨va, rfl, hva, hbA⟩
      have hSA := hSF.below hbA (Nat.lt_of_lt_of_le hlt hbF.size)
      refine hK _ _ (.inr (.inr hSA)) ?_
      clear hK K
      refine wpHJ_only 5 (by kernel_rfl) rfl ?_
      intro K hK
      go_simp
      have hdc := dec_c (w := wA) HCd.out.good HCd.out.n HCd.out.b.vars HCd.out.b.cls (hLL.keep fun k hk => ⟨Nat.lt_of_lt_of_le hk.2 hbA.size, hbA.block k hk.2⟩) (hva.weaken fun k hk => hk.2)
      (with_reducible refine (callsIn_wide.2 hdc).mono ?_)
      rintro e wK ⟨pk, ck, kk, rfl, hrk, hKO, hbK⟩
      have hbFA := below_tr' hbF hbA (Nat.le_refl _)
      have hbFK := below_tr' hbFA hbK (Nat.le_refl _)
      have hbW : Below w12.heap.size w12 wK := ⟨hbFK.os, hbFK.tape, hbFK.output, hbFK.size, hbFK.block⟩
      have hSK := hSA.below hbK (Nat.lt_of_lt_of_le hlt hbFA.size)
      have HBK := hid hbW; have HRK := hid hrk; have HKO := hid hKO
      have HFK := hid (FrB.of_below HR12.out.st.c.b hbW)
      clear hdc hbF hbA hbK hbFA hbFK hbW hrk hKO hva hLL hSF hSA hSd
      refine hK _ _ (.inr (.inr hSK)) ?_
      clear hK K
      refine wpHJ_pure (v := ?vc6) 6 hFa rfl (by kernel_rfl) (fun _ _ _ h => h.elim) (Or.inl ⟨by rfl, ?yc6⟩) (.inr hSK) ?rc6
      case yc6 => (intro w' _; go_simp; try rfl)
      simp only [Act.put, List.getElem_toArray, List.getElem_cons_succ, List.getElem_cons_zero, List.setIfInBounds_toArray, List.set_cons_zero, List.set_cons_succ]
      refine wpHJ_pure (v := ?vc7) 7 hFa rfl (by kernel_rfl) (fun _ _ _ h => h.elim) (Or.inl ⟨by rfl, ?yc7⟩) (.inr hSK) ?rc7
      case yc7 => (intro w' _; go_simp; try rfl)
      simp only [Act.put, List.getElem_toArray, List.getElem_cons_succ, List.getElem_cons_zero, List.setIfInBounds_toArray, List.set_cons_zero, List.set_cons_succ]
      refine wpHJ_pure (v := ?vc8) 8 hFa rfl (by kernel_rfl) (fun _ _ _ h => h.elim) (Or.inl ⟨by rfl, ?yc8⟩) (.inr hSK) ?rc8
      case yc8 => (intro w' _; go_simp; try rfl)
      simp only [Act.put, List.getElem_toArray, List.getElem_cons_succ, List.getElem_cons_zero, List.setIfInBounds_toArray, List.set_cons_zero, List.set_cons_succ]
      refine wpHJ_pure (v := ?vc9) 9 hFa rfl (by kernel_rfl) (fun _ _ _ h => h.elim) (Or.inl ⟨by rfl, ?yc9⟩) (.inr hSK) ?rc9
      case yc9 => (intro w' _; go_simp; try rfl)
      simp only [Act.put, List.getElem_toArray, List.getElem_cons_succ, List.getElem_cons_zero, List.setIfInBounds_toArray, List.set_cons_zero, List.set_cons_succ]
      refine wpHJ_only 10 (by kernel_rfl) rfl ?_
      intro K hK
      go_simp
      refine hK _ _ (.inl rfl) ?_
      clear hK K
      refine wpHJ_done (by kernel_rfl) ?_ _
      simp only [onlyN, Exit.then]
      clear hSK
      have HKW := hid ((((HK12.out.fr HFK.out).word (HR12.out.fr0 HFK.out).1 ⟨HR12.out.ox, HR12.out.bx⟩).word (HR12.out.fr0 HFK.out).2 ⟨HR12.out.oy, HR12.out.by'⟩))
      have HV12 := hid HR12.out.st.c.b.vars
      have HBW := hid (HR12.out.st.fr)
      obtain ⟨A, B, VS, VD, VL, eA, eB, eS, eBk, eD, eL, t1, t3, t3b, c1', c2', c3'⟩ := again_math ax ay W HAL.out HBL.out hW64
      have v1 := valc_of (ck := ck) HKW.out HKO.out HV12.out HRK.out (v := .slice p1 W c1) (zs := xs) (bs := ax) (by simp) (by rw [HAL.out]; exact hW64)
      have v2 := valc_of (ck := ck) HKW.out HKO.out HV12.out HRK.out (v := .slice p2 W c2) (zs := ys) (bs := ay) (by simp) (by rw [HBL.out]; exact hW64)
      have v3 := valc_of (ck := ck) HKW.out HKO.out HV12.out HRK.out (v := .slice p6 W c6) (zs := zs6) (bs := addB ax ay false) (by simp) (by rw [addB_len _ _ _ (by rw [HAL.out, HBL.out]), HAL.out]; exact hW64)
      have v4 := valc_of (ck := ck) HKW.out HKO.out HV12.out HRK.out (v := .slice p7 W c7) (zs := zs7) (bs := addB (addB ax ay false) (ay.map (!·)) true) (by simp) (by rw [sub_add ax ay (by rw [HAL.out, HBL.out]), HAL.out]; exact hW64)
      have v5 := valc_of (ck := ck) HKW.out HKO.out HV12.out HRK.out (v := .slice p8 W c8) (zs := zs8) (bs := addB ax (ay.map (!·)) true) (by simp) (by rw [addB_len _ _ _ (by rw [List.length_map, HAL.out, HBL.out]), HAL.out]; exact hW64)
      have v6 := valc_of (ck := ck) HKW.out HKO.out HV12.out HRK.out (v := .slice p9 W c9) (zs := zs9) (bs := addB ax (ay.map (!·)) true) (by simp) (by rw [addB_len _ _ _ (by rw [List.length_map, HAL.out, HBL.out]), HAL.out]; exact hW64)
      have v7 := vall_of (ck := ck) HKW.out HKO.out HV12.out HRK.out (z1 := z10) (z2 := z11) (z3 := z12) (b1 := lessS ax ay false) (b2 := lessS ay ax false) (b3 := decide (ax = ay)) (by simp) (by simp) (by simp)
      rw [eA] at v1
      rw [eB] at v2
      rw [eS] at v3
      rw [eBk] at v4
      rw [eD] at v5 v6
      rw [eL] at v7
      have H1 := hid v1; have H2 := hid v2; have H3 := hid v3; have H4 := hid v4; have H5 := hid v5; have H6 := hid v6; have H7 := hid v7
      have C1 := hid c1'; have C2 := hid c2'; have C3 := hid c3'; have T1 := hid t1; have T3 := hid t3; have T3B := hid t3b
      have HMK := hid (fun w => mask_any W w hW1 hW64)
      clear v1 v2 v3 v4 v5 v6 v7 c1' c2' c3' t1 t3 t3b eA eB eS eBk eD eL HKW HKO HV12 HRK
      clear HR6 HR7 HR8 HR9 HR10 HR11 HK6 HK7 HK8 HK9 HK10 HK11 HK12 HT6 HT7 HT8 HT9 HT10 HT11 HT12 HTd HKd HTD HRD HIND HLN HK0
      have q0 := Quiet.refl wK
      go_wp2_with fail
      (with_reducible refine (HMK.out _).mono ?_)
      rintro e w' ⟨rfl, rfl⟩
      go_wp2_with fail
      (with_reducible refine (H1.out.use q0).mono ?_)
      rintro e u1 ⟨rfl, q1⟩
      go_wp2_with fail
      (with_reducible refine (H2.out.use q1).mono ?_)
      rintro e u2 ⟨rfl, q2⟩
      go_wp2_with fail
      (with_reducible refine (H3.out.use q2).mono ?_)
      rintro e u3 ⟨rfl, q3⟩
      go_wp2_with fail
      (with_reducible refine (H4.out.use q3).mono ?_)
      rintro e u4 ⟨rfl, q4⟩
      go_wp2_with fail
      (with_reducible refine (H5.out.use q4).mono ?_)
      rintro e u5 ⟨rfl, q5⟩
      go_wp2_with fail
      (with_reducible refine (H6.out.use q5).mono ?_)
      rintro e u6 ⟨rfl, q6⟩
      go_wp2_with fail
      (with_reducible refine (H7.out.use q6).mono ?_)
      rintro e u7 ⟨rfl, b7⟩
      clear q0 q1 q2 q3 q4 q5 q6 H1 H2 H3 H4 H5 H6 H7 HMK
      have hbF := below_tr' (below_tr' (below_tr' HB0.out HBW.out (Nat.le_refl _)) HBK.out (Nat.le_refl _)) b7 (Nat.le_refl _)
      have HBF := hid hbF
      clear hbF b7 HB0 HBW HBK HFK
      have t1 := T1.out; have t3 := T3.out
      rcases Nat.lt_trichotomy A B with hlt | heq | hgt
      · have e := C1.out hlt
        subst e
        clear C1 C2 C3 T1 T3 T3B
        go_wp2_with (go_at_call 30; refine (awake_any _).mono ?_; rintro e w9 ⟨rfl, hb9⟩)
        go_ret
        exact ⟨rfl, below_tr' HBF.out hb9 (Nat.le_refl _)⟩
      · have e := C3.out heq
        subst e
        have t3b := T3B.out (by omega)
        have hn1 : ¬ A < B := by omega
        have hn2 : ¬ B < A := by omega
        clear C1 C2 C3 T1 T3 T3B heq
        go_wp2_with (go_at_call 30; refine (awake_any _).mono ?_; rintro e w9 ⟨rfl, hb9⟩)
        go_ret
        exact ⟨rfl, below_tr' HBF.out hb9 (Nat.le_refl _)⟩
      · have e := C2.out hgt
        subst e
        have t3b := T3B.out (by omega)
        have hn : ¬ A < B := by omega
        go_wp2_with (go_at_call 30; refine (awake_any _).mono ?_; rintro e w9 ⟨rfl, hb9⟩)
        go_ret
        exact ⟨rfl, below_tr' HBF.out hb9 (Nat.le_refl _)⟩
end Go.Proofs.Ytngimdbjcelkeaa
