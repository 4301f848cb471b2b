/-
  The walk of AdderSigned.
-/
import Derived.Test.YtngimdbjcelkeaaKit2
namespace Go.Proofs.Ytngimdbjcelkeaa
set_option linter.unusedSimpArgs false
set_option linter.unusedVariables false
open Go.RowKit Go.Shelf
attribute [local go_sem] Oper.semAt_some

set_option maxRecDepth 100000 in
set_option maxHeartbeats 6400000 in
theorem signed_walk (z cr : Int) (vals : List Bool) (lx ly : List Int) (vv vx vy : Value) (w : World) (hz : -9223372036854775808 ≤ z ∧ z ≤ 9223372036854775807) (hcr : -9223372036854775808 ≤ cr ∧ cr ≤ 9223372036854775807)
    (hv : Bools (· < w.heap.size) w vv vals) (hx : Ints (· < w.heap.size) w vx lx) (hy : Ints (· < w.heap.size) w vy ly)
    (hlx : ∀ x ∈ lx, -9223372036854775808 ≤ x ∧ x ≤ 9223372036854775807) (hly : ∀ x ∈ ly, -9223372036854775808 ≤ x ∧ x ≤ 9223372036854775807) :
    Calls Try.prog 7 #[.agg #[.int .i64 z, vv, vx, vy], .int .i64 cr] w fun e w' => e = .returned (.bool true) ∧ Below w.heap.size w w' := by
  have hb0 : Below w.heap.size w (w.alloc (.cells #[.int .i64 z, vv, vx, vy] 25)) := (Below.refl _ _).alloc (Nat.le_refl _) _
  have hk0 : ∀ k, k < w.heap.size → k < (w.alloc (.cells #[.int .i64 z, vv, vx, vy] 25)).heap.size ∧ (w.alloc (.cells #[.int .i64 z, vv, vx, vy] 25)).heap[k]? = w.heap[k]? := fun k hk => ⟨by simp only [World.size_alloc]; omega, hb0.block k hk⟩
  have hmk := make_mk z vals lx ly vv vx vy (w.alloc (.cells #[.int .i64 z, vv, vx, vy] 25)) hz (hv.keep hk0) (hx.keep hk0) (hy.keep hk0) hlx hly ((z % 64).toNat + 1) rfl
  have hW1 : 1 ≤ (z % 64).toNat + 1 := by omega
  have hW64 : (z % 64).toNat + 1 ≤ 64 := by omega
  generalize (z % 64).toNat + 1 = W at *
  obtain ⟨pv, cv, rfl, _, _, _, _⟩ := hv.op
  obtain ⟨px, cx, rfl, _, _, _, _⟩ := hx.op
  obtain ⟨py, cy, rfl, _, _, _, _⟩ := hy.op
  have HMK := hid hmk; have HB0 := hid hb0
  clear hmk hb0 hk0 hv hx hy hlx hly
  go_enter Try.func7, Try.ntmps7
  go_wp2_with (go_at_call 23; refine HMK.out.mono ?_; rintro e w3 ⟨bb, σ0, vin, vval, v1, v2, va, vb, xs, ys, rfl, hC, hxl, hyl, hxo, hyo, ix, iy, ia, ib, hbe, hbb, hlo⟩; obtain ⟨pi, ci, rfl, _, _, _⟩ := hC.inp.opn (insM_len _); obtain ⟨pw, cw, rfl, _, _, _⟩ := hC.val.opn (valsM_len _ _); obtain ⟨p1, c1, rfl, _, _, _⟩ := ix.opn hxl; obtain ⟨p2, c2, rfl, _, _, _⟩ := iy.opn hyl; obtain ⟨p3, c3, rfl, _, _, _⟩ := ia.opn (n := W) (by rw [List.length_map]; exact hxl); obtain ⟨p4, c4, rfl, _, _, _⟩ := ib.opn (n := W) (by rw [List.length_map]; exact hyl); have HR := hid (Run.mk (V := 2 * W + 1) (K := 1) (St.mk hC hbe hlo) hxl hyl hxo hyo rfl rfl ix iy ia ib (Nat.le_refl _) (Nat.le_refl _)); have HAL := hid (show (xs.map (litT σ0)).length = W by rw [List.length_map, hxl]); have HBL := hid (show (ys.map (litT σ0)).length = W by rw [List.length_map, hyl]); clear hC hbe hlo hxl hyl hxo hyo ix iy ia ib hbb; generalize xs.map (litT σ0) = ax at *; generalize ys.map (litT σ0) = ay at *)
  -- the box; Pick
  obtain ⟨hR4, hT4, hsz4, hf4⟩ := HR.out.box _ rfl
  generalize hw4 : World.alloc w3 _ = w4 at *
  clear hw4
  have HR4 := hid hR4; have HT4 := hid hT4; have HSZ4 := hid hsz4
  clear hR4 hT4 hf4 hsz4
  go_wp2_with fail
  go_loopw [12, 51] (fun v i wr => ∃ (k : Nat), k ≤ W ∧ i = .int .i64 k ∧ wr.ownsRow w4.heap.size 3 1 v k ((List.replicate k (-1 : Int)).map (Value.int .i64)) ∧ Below w4.heap.size w4 wr) (fun _ i _ => W - (intOf i).toNat)
  case atStart => exact ⟨0, Nat.zero_le _, rfl, World.ownsRow_nil _ _ _ _, Below.refl _ _⟩
  case round =>
    obtain ⟨k, hk, rfl, hown, hbel⟩ := hrel
    obtain ⟨wo, rfl⟩ : ∃ wo : World, wo = wr := ⟨_, rfl⟩
    obtain ⟨po, co, rfl⟩ := own_slice hown
    have hTw := HT4.out.fr (FrB.of_below HR4.out.st.c.b hbel)
    have hSw := hTw.boxS
    by_cases hlt : k < W
    · have HBE := hid hbel; have HO := hid hown
      have hws := hbel.size
      have hsn : (List.replicate (k + 1) (-1 : Int)) = List.replicate k (-1) ++ [-1] := by rw [List.replicate_succ']
      have HSN := hid hsn
      obtain ⟨b0, b1, b2⟩ := hSw
      clear hown hbel hsn HT4 HR4 hTw
      go_wp2_with (first
        | (go_at_call 31; refine (true_any bb _).mono ?_; rintro e w' ⟨rfl, rfl⟩)
        | (at_builtin; refine wpList_app _ rfl (.tmp 53) (.tmp 58) 23 rfl w4.heap.size 3 (.int .i64 0) 8 Try.underlying23 info_int rfl _ k _ rfl (HO.out.alloc _) (some ⟨wo.heap.size, 0, none⟩) 1 1 [.int .i64 (-1)] rfl rfl (RowR.one _ _ _) (by simp [Value.oneCell']) (by omega) (by unfold maxLen; omega) (by rw [World.size_alloc]; omega) ?_; intro v' w6 hown6 hg6 _; have HO6 := hid hown6; have HG6 := hid hg6; clear hown6 hg6))
      go_roundw
      case rel => exact ⟨k + 1, by omega, by go_num, by rw [HSN.out, List.map_append]; exact HO6.out, below_one HBE.out hws HG6.out (fun j hj => (HO.out.lt _ hj).1)⟩
      case measure => simp [intOf]; omega
    · obtain rfl : W = k := by omega
      have hRw := HR4.out.fr hbel
      have hz : Ints (Away bb wo) wo (.slice po W co) (List.replicate W (-1)) := Sl.of_owns hown (by omega) (fun j hj => HR4.out.st.c.b.away_new hbel (hown.lt j hj).1 (hown.lt j hj).2)
      have hlz : LitsAre σ0 ⟨2 * W + 1, [[1]]⟩ (List.replicate W (-1)) (List.replicate W false) := by
        refine ⟨fun x hx => ?_, ?_⟩
        · rw [List.eq_of_mem_replicate hx]; exact ok_neg hRw.st.c.good.ok1
        · rw [List.map_replicate, hRw.st.c.good.tm1]
      have hpk := pick_any bb _ σ0 _ _ _ cr wo hRw.st.c hcr
      have HRW := hid hRw; have HTW := hid hTw; have HK0 := hid ((Kit.nil (bb := bb)).word hz hlz); have HPK := hid hpk; have HBE := hid hbel
      obtain ⟨b0, b1, b2⟩ := hSw
      clear hown hbel hRw hz hlz hpk hTw HT4 HR4
      go_wp2_with fail
      (with_reducible refine HPK.out.mono ?_)
      rintro e w5 ⟨lit, bc, rfl, hlo, hlb, hb5⟩
      have hf5 := FrB.of_below HRW.out.st.c.b hb5
      have hT5 := HTW.out.fr hf5
      have hS5 := hT5.boxS
      have HR5 := hid (HRW.out.fr hb5); have HT5 := hid hT5; have HK5 := hid (((HK0.out.fr hf5).lit (show LitIs σ0 _ lit bc from ⟨hlo, hlb⟩)))
      clear hf5 hT5 hlo hlb hb5 HPK HRW HTW HK0 b0 b1 b2
      have HC6 := hid (HR5.out.less hW1 hW64 true (by omega) (by omega))
      obtain ⟨b50, b51, b52⟩ := hS5
      go_wp2_with fail
      (with_reducible refine HC6.out.mono ?_)
      rintro e w6 ⟨z6, σ6, F6, rfl, hR6, hB6, hf6, hx6⟩
      have hT6 := HT5.out.fr hf6
      have hS6 := hT6.boxS
      have HR6 := hid hR6; have HT6 := hid hT6; have HK6 := hid ((HK5.out.step hf6 hx6).lit hB6)
      clear hR6 hT6 hB6 hf6 hx6 HC6 b50 b51 b52
      have hS6d := hS6.drew
      clear hS6
      go_wp2_with fail
      have hbd : Below w6.heap.size w6 w6.drew := ⟨rfl, rfl, rfl, Nat.le_refl _, fun _ _ => rfl⟩
      have HRd := hid (HR6.out.fr hbd)
      have hfd := FrB.of_below HR6.out.st.c.b hbd
      have HTd := hid (HT6.out.fr hfd); have HKd := hid (HK6.out.fr hfd)
      have hlt6 := HT6.out.lt
      have hbxs : ∀ x ∈ xs, -9223372036854775807 ≤ x ∧ x ≤ 9223372036854775807 := fun y hy => lit_i64 HR6.out.st.c.b.vars (HR6.out.ox y hy)
      have hbys : ∀ x ∈ ys, -9223372036854775807 ≤ x ∧ x ≤ 9223372036854775807 := fun y hy => lit_i64 HR6.out.st.c.b.vars (HR6.out.oy y hy)
      have HT1 := hid (turn_any (.slice p1 W c1) xs (Away bb w6.drew) w6.drew HRd.out.ix (by rw [HRd.out.xl]; exact hW1) (by rw [HRd.out.xl]; exact hW64) hbxs)
      have HBX := hid hbxs; have HBY := hid hbys
      clear hbd hfd hbxs hbys
      have hFa : ∀ f, Fence.wide.fn f := fun _ => trivial
      refine (wpIn_wide (n := 9)).1 ?_
      refine wpIn_onlyN ?_
      refine wpIn_region_HJ (BoxS w3.heap.size (.pointer (some ⟨bb, 0, none⟩)) (.slice pi (2 * W) ci) (.slice pw (2 * W) cw)) 13 (by kernel_rfl) ?_
      simp only [List.size_toArray, List.length_cons, List.length_nil, Nat.reduceAdd]
      refine wpHJ_pure (v := ?va0) 0 hFa rfl (by kernel_rfl) (fun _ _ _ h => h.elim) (Or.inl ⟨by rfl, ?ya0⟩) (.inr hS6d) ?ra0
      case ya0 => (intro w' _; go_simp; try rfl)
      simp only [Act.put, List.getElem_toArray, List.getElem_cons_succ, List.getElem_cons_zero, List.setIfInBounds_toArray, List.set_cons_zero, List.set_cons_succ]
      refine wpHJ_take (v := ?va1) 1 hFa rfl (by kernel_rfl) (fun _ _ _ h => h.elim) (Or.inl ⟨by rfl, ?ya1⟩) hS6d ?ra1
      case ya1 => (intro w' hS'; obtain ⟨s1, s2, s3⟩ := hS'; go_simp; try rfl)
      simp only [Act.put, List.getElem_toArray, List.getElem_cons_succ, List.getElem_cons_zero, List.setIfInBounds_toArray, List.set_cons_zero, List.set_cons_succ]
      refine wpHJ_pure (v := ?va2) 2 hFa rfl (by kernel_rfl) (fun _ _ _ h => h.elim) (Or.inl ⟨by rfl, ?ya2⟩) (.inr hS6d) ?ra2
      case ya2 => (intro w' _; go_simp; try rfl)
      simp only [Act.put, List.getElem_toArray, List.getElem_cons_succ, List.getElem_cons_zero, List.setIfInBounds_toArray, List.set_cons_zero, List.set_cons_succ]
      refine wpHJ_pure (v := ?va3) 3 hFa rfl (by kernel_rfl) (fun _ _ _ h => h.elim) (Or.inl ⟨by rfl, ?ya3⟩) (.inr hS6d) ?ra3
      case ya3 => (intro w' _; go_simp; try rfl)
      simp only [Act.put, List.getElem_toArray, List.getElem_cons_succ, List.getElem_cons_zero, List.setIfInBounds_toArray, List.set_cons_zero, List.set_cons_succ]
      refine wpHJ_pure (v := ?va5) 5 hFa rfl (by kernel_rfl) (fun _ _ _ h => h.elim) (Or.inl ⟨by rfl, ?ya5⟩) (.inr hS6d) ?ra5
      case ya5 => (intro w' _; go_simp; try rfl)
      simp only [Act.put, List.getElem_toArray, List.getElem_cons_succ, List.getElem_cons_zero, List.setIfInBounds_toArray, List.set_cons_zero, List.set_cons_succ]
      refine wpHJ_pure (v := ?va6) 6 hFa rfl (by kernel_rfl) (fun _ _ _ h => h.elim) (Or.inl ⟨by rfl, ?ya6⟩) (.inr hS6d) ?ra6
      case ya6 => (intro w' _; go_simp; try rfl)
      simp only [Act.put, List.getElem_toArray, List.getElem_cons_succ, List.getElem_cons_zero, List.setIfInBounds_toArray, List.set_cons_zero, List.set_cons_succ]
      refine wpHJ_only 4 (by kernel_rfl) rfl ?_
      intro K hK
      go_simp
      (with_reducible refine (callsIn_wide.2 HT1.out).mono ?_)
      rintro e wa ⟨va, rfl, hva, hba⟩
      obtain ⟨pa, ca, rfl, _, _, _⟩ := hva.opn (n := W) (by rw [turn_len]; exact HRd.out.xl)
      have hfa := FrB.of_below HRd.out.st.c.b hba
      have hRa := HRd.out.fr hba
      have HTa := hid (HTd.out.fr hfa)
      have HKa := hid ((HKd.out.fr hfa).word (hva.weaken fun k hk => HRd.out.st.c.b.away_new hba hk.1 hk.2) ⟨turn_ok (by rw [HRd.out.xl]; exact hW1) HRd.out.ox, by rw [turn_map (by rw [HRd.out.xl]; exact hW1) HRd.out.ox, HRd.out.bx]⟩)
      have HT2 := hid (turn_any (.slice p2 W c2) ys (Away bb wa) wa hRa.iy (by rw [hRa.yl]; exact hW1) (by rw [hRa.yl]; exact hW64) HBY.out)
      have HRa := hid hRa
      have hSa := HTa.out.boxS
      clear hva hba hfa hRa HT1
      refine hK _ _ (.inr (.inr hSa)) ?_
      clear hK K
      refine wpHJ_only 7 (by kernel_rfl) rfl ?_
      intro K hK
      go_simp
      (with_reducible refine (callsIn_wide.2 HT2.out).mono ?_)
      rintro e wb ⟨vb, rfl, hvb, hbb⟩
      obtain ⟨pb, cb, rfl, _, _, _⟩ := hvb.opn (n := W) (by rw [turn_len]; exact HRa.out.yl)
      have hfb := FrB.of_below HRa.out.st.c.b hbb
      have HRb := hid (HRa.out.fr hbb)
      have HTb := hid (HTa.out.fr hfb)
      have HKb := hid ((HKa.out.fr hfb).word (hvb.weaken fun k hk => HRa.out.st.c.b.away_new hbb hk.1 hk.2) ⟨turn_ok (by rw [HRa.out.yl]; exact hW1) HRa.out.oy, by rw [turn_map (by rw [HRa.out.yl]; exact hW1) HRa.out.oy, HRa.out.by']⟩)
      have hSb := HTb.out.boxS
      have HC7 := hid (HRb.out.lessN hW1 hW64 (HKb.out.w (.slice pa W ca, turnM xs, turnB ax) (by simp)).1 (HKb.out.w (.slice pb W cb, turnM ys, turnB ay) (by simp)).1 (HKb.out.w (.slice pa W ca, turnM xs, turnB ax) (by simp)).2 (HKb.out.w (.slice pb W cb, turnM ys, turnB ay) (by simp)).2 (by rw [turnB_len]; exact HAL.out) (by rw [turnB_len]; exact HBL.out) false (by omega) (by omega))
      clear hvb hbb hfb HT2 hSa
      refine hK _ _ (.inr (.inr hSb)) ?_
      clear hK K
      refine wpHJ_only 8 (by kernel_rfl) rfl ?_
      intro K hK
      go_simp
      (with_reducible refine (callsIn_wide.2 HC7.out).mono ?_)
      rintro e w7 ⟨z7, σ7, F7, rfl, hR7, hB7, hf7, hx7⟩
      have hT7 := HTb.out.fr hf7
      have hS7 := hT7.boxS
      have HR7 := hid hR7; have HT7 := hid hT7; have HK7 := hid ((HKb.out.step hf7 hx7).lit hB7)
      clear hR7 hT7 hB7 hf7 hx7 HC7 hSb
      refine hK _ _ (.inr (.inr hS7)) ?_
      clear hK K
      refine wpHJ_pure (v := ?va9) 9 hFa rfl (by kernel_rfl) (fun _ _ _ h => h.elim) (Or.inl ⟨by rfl, ?ya9⟩) (.inr hS7) ?ra9
      case ya9 => (intro w' _; go_simp; try rfl)
      simp only [Act.put, List.getElem_toArray, List.getElem_cons_succ, List.getElem_cons_zero, List.setIfInBounds_toArray, List.set_cons_zero, List.set_cons_succ]
      refine wpHJ_pure (v := ?va10) 10 hFa rfl (by kernel_rfl) (fun _ _ _ h => h.elim) (Or.inl ⟨by rfl, ?ya10⟩) (.inr hS7) ?ra10
      case ya10 => (intro w' _; go_simp; try rfl)
      simp only [Act.put, List.getElem_toArray, List.getElem_cons_succ, List.getElem_cons_zero, List.setIfInBounds_toArray, List.set_cons_zero, List.set_cons_succ]
      refine wpHJ_pure (v := ?va11) 11 hFa rfl (by kernel_rfl) (fun _ _ _ h => h.elim) (Or.inl ⟨by rfl, ?ya11⟩) (.inr hS7) ?ra11
      case ya11 => (intro w' _; go_simp; try rfl)
      simp only [Act.put, List.getElem_toArray, List.getElem_cons_succ, List.getElem_cons_zero, List.setIfInBounds_toArray, List.set_cons_zero, List.set_cons_succ]
      refine wpHJ_pure (v := ?va12) 12 hFa rfl (by kernel_rfl) (fun _ _ _ h => h.elim) (Or.inl ⟨by rfl, ?ya12⟩) (.inr hS7) ?ra12
      case ya12 => (intro w' _; go_simp; try rfl)
      simp only [Act.put, List.getElem_toArray, List.getElem_cons_succ, List.getElem_cons_zero, List.setIfInBounds_toArray, List.set_cons_zero, List.set_cons_succ]
      refine wpHJ_only 13 (by kernel_rfl) rfl ?_
      intro K hK
      go_simp
      refine hK _ _ (.inl rfl) ?_
      clear hK K
      refine wpHJ_done (by kernel_rfl) ?_ _
      simp only [onlyN, Exit.then]
      clear hFa
      have HC8 := hid (HR7.out.chooseN hW1 hW64 HR7.out.ix HR7.out.ix ⟨HR7.out.ox, HR7.out.bx⟩ ⟨HR7.out.ox, HR7.out.bx⟩ HAL.out HAL.out (HK7.out.l (lit, bc) (by simp)) (by omega) (by omega))
      obtain ⟨b70, b71, b72⟩ := hS7
      go_wp2_with fail
      (with_reducible refine HC8.out.mono ?_)
      rintro e w8 ⟨v8, zs8, σ8, F8, rfl, hR8, hi8, hB8, hf8, hx8⟩
      have hl8 : zs8.length = W := by rw [hB8.len]; unfold chooseB; split <;> exact HAL.out
      obtain ⟨p8, c8, rfl, _, _, _⟩ := hi8.opn hl8
      have hT8 := HT7.out.fr hf8
      have hS8 := hT8.boxS
      have HL8 := hid hl8
      have HR8 := hid hR8; have HT8 := hid hT8; have HK8 := hid ((HK7.out.step hf8 hx8).word hi8 hB8)
      clear hR8 hT8 hi8 hB8 hf8 hx8 hl8 HC8 b70 b71 b72
      have HC9 := hid (HR8.out.any hW1 hW64 (by omega) (by omega))
      obtain ⟨b80, b81, b82⟩ := hS8
      go_wp2_with fail
      (with_reducible refine HC9.out.mono ?_)
      rintro e w9 ⟨z9, σ9, F9, rfl, hR9, hB9, hf9, hx9⟩
      have hT9 := HT8.out.fr hf9
      have hS9 := hT9.boxS
      have HR9 := hid hR9; have HT9 := hid hT9; have HK9 := hid ((HK8.out.step hf9 hx9).lit hB9)
      clear hR9 hT9 hB9 hf9 hx9 HC9 b80 b81 b82
      have HC10 := hid (HR9.out.equalN hW1 hW64 HR9.out.ix (HK9.out.w (.slice po W co, List.replicate W (-1), List.replicate W false) (by simp)).1 ⟨HR9.out.ox, HR9.out.bx⟩ (HK9.out.w (.slice po W co, List.replicate W (-1), List.replicate W false) (by simp)).2 HAL.out (by simp) (by omega) (by omega))
      obtain ⟨b90, b91, b92⟩ := hS9
      go_wp2_with fail
      (with_reducible refine HC10.out.mono ?_)
      rintro e w10 ⟨z10, σ10, F10, rfl, hR10, hB10, hf10, hx10⟩
      have hT10 := HT9.out.fr hf10
      have hS10 := hT10.boxS
      have HR10 := hid hR10; have HT10 := hid hT10; have HK10 := hid ((HK9.out.step hf10 hx10).lit hB10)
      clear hR10 hT10 hB10 hf10 hx10 HC10 b90 b91 b92
      have hSd := hS10.drew
      clear hS10
      go_wp2_with fail
      have hbd : Below w10.heap.size w10 w10.drew := ⟨rfl, rfl, rfl, Nat.le_refl _, fun _ _ => rfl⟩
      have hCd := HR10.out.st.c.below hbd
      have hlt := HT10.out.lt
      have HCd := hid hCd
      clear hbd hCd
      have hFa : ∀ f, Fence.wide.fn f := fun _ => trivial
      refine (wpIn_wide (n := 9)).1 ?_
      refine wpIn_onlyN ?_
      refine wpIn_region_HJ (BoxS w3.heap.size (.pointer (some ⟨bb, 0, none⟩)) (.slice pi (2 * W) ci) (.slice pw (2 * W) cw)) 10 (by kernel_rfl) ?_
      simp only [List.size_toArray, List.length_cons, List.length_nil, Nat.reduceAdd]
      refine wpHJ_pure (v := ?vc0) 0 hFa rfl (by kernel_rfl) (fun _ _ _ h => h.elim) (Or.inl ⟨by rfl, ?yc0⟩) (.inr hSd) ?rc0
      case yc0 => (intro w' _; go_simp; try rfl)
      simp only [Act.put, List.getElem_toArray, List.getElem_cons_succ, List.getElem_cons_zero, List.setIfInBounds_toArray, List.set_cons_zero, List.set_cons_succ]
      refine wpHJ_take (v := ?vc1) 1 hFa rfl (by kernel_rfl) (fun _ _ _ h => h.elim) (Or.inl ⟨by rfl, ?yc1⟩) hSd ?rc1
      case yc1 => (intro w' hS'; obtain ⟨s1, s2, s3⟩ := hS'; go_simp; try rfl)
      simp only [Act.put, List.getElem_toArray, List.getElem_cons_succ, List.getElem_cons_zero, List.setIfInBounds_toArray, List.set_cons_zero, List.set_cons_succ]
      refine wpHJ_take (v := ?vc3) 3 hFa rfl (by kernel_rfl) (fun _ _ _ h => h.elim) (Or.inl ⟨by rfl, ?yc3⟩) hSd ?rc3
      case yc3 => (intro w' hS'; obtain ⟨s1, s2, s3⟩ := hS'; go_simp; try rfl)
      simp only [Act.put, List.getElem_toArray, List.getElem_cons_succ, List.getElem_cons_zero, List.setIfInBounds_toArray, List.set_cons_zero, List.set_cons_succ]
      refine wpHJ_only 2 (by kernel_rfl) rfl ?_
      intro K hK
      go_simp
      (with_reducible refine (callsIn_wide.2 (formula_any bb _ _ HCd.out.b (good_len HCd.out.good))).mono ?_)
      rintro e wF ⟨vc, rfl, hLL, hbF⟩
      obtain ⟨pc, cc, vs, rfl, _, _, _, _, _, _⟩ := hLL.op
      have hSF := BoxS.below hSd hbF hlt
      refine hK _ _ (.inr (.inr hSF)) ?_
      clear hK K
      refine wpHJ_only 4 (by kernel_rfl) rfl ?_
      intro K hK
      go_simp
      (with_reducible refine (callsIn_wide.2 (asm_c (HCd.out.below hbF))).mono ?_)
      rintro e wA ⟨va, rfl, hva, hbA⟩
      have hSA := hSF.below hbA (Nat.lt_of_lt_of_le hlt hbF.size)
      refine hK _ _ (.inr (.inr hSA)) ?_
      clear hK K
      refine wpHJ_only 5 (by kernel_rfl) rfl ?_
      intro K hK
      go_simp
      have hdc := dec_c (w := wA) HCd.out.good HCd.out.n HCd.out.b.vars HCd.out.b.cls (hLL.keep fun k hk => ⟨Nat.lt_of_lt_of_le hk.2 hbA.size, hbA.block k hk.2⟩) (hva.weaken fun k hk => hk.2)
      (with_reducible refine (callsIn_wide.2 hdc).mono ?_)
      rintro e wK ⟨pk, ck, kk, rfl, hrk, hKO, hbK⟩
      have hbFA := below_tr' hbF hbA (Nat.le_refl _)
      have hbFK := below_tr' hbFA hbK (Nat.le_refl _)
      have hbW : Below w10.heap.size w10 wK := ⟨hbFK.os, hbFK.tape, hbFK.output, hbFK.size, hbFK.block⟩
      have hSK := hSA.below hbK (Nat.lt_of_lt_of_le hlt hbFA.size)
      have HBK := hid hbW; have HRK := hid hrk; have HKO := hid hKO
      have HFK := hid (FrB.of_below HR10.out.st.c.b hbW)
      clear hdc hbF hbA hbK hbFA hbFK hbW hrk hKO hva hLL hSF hSA hSd
      refine hK _ _ (.inr (.inr hSK)) ?_
      clear hK K
      refine wpHJ_pure (v := ?vc6) 6 hFa rfl (by kernel_rfl) (fun _ _ _ h => h.elim) (Or.inl ⟨by rfl, ?yc6⟩) (.inr hSK) ?rc6
      case yc6 => (intro w' _; go_simp; try rfl)
      simp only [Act.put, List.getElem_toArray, List.getElem_cons_succ, List.getElem_cons_zero, List.setIfInBounds_toArray, List.set_cons_zero, List.set_cons_succ]
      refine wpHJ_pure (v := ?vc7) 7 hFa rfl (by kernel_rfl) (fun _ _ _ h => h.elim) (Or.inl ⟨by rfl, ?yc7⟩) (.inr hSK) ?rc7
      case yc7 => (intro w' _; go_simp; try rfl)
      simp only [Act.put, List.getElem_toArray, List.getElem_cons_succ, List.getElem_cons_zero, List.setIfInBounds_toArray, List.set_cons_zero, List.set_cons_succ]
      refine wpHJ_pure (v := ?vc8) 8 hFa rfl (by kernel_rfl) (fun _ _ _ h => h.elim) (Or.inl ⟨by rfl, ?yc8⟩) (.inr hSK) ?rc8
      case yc8 => (intro w' _; go_simp; try rfl)
      simp only [Act.put, List.getElem_toArray, List.getElem_cons_succ, List.getElem_cons_zero, List.setIfInBounds_toArray, List.set_cons_zero, List.set_cons_succ]
      refine wpHJ_pure (v := ?vc9) 9 hFa rfl (by kernel_rfl) (fun _ _ _ h => h.elim) (Or.inl ⟨by rfl, ?yc9⟩) (.inr hSK) ?rc9
      case yc9 => (intro w' _; go_simp; try rfl)
      simp only [Act.put, List.getElem_toArray, List.getElem_cons_succ, List.getElem_cons_zero, List.setIfInBounds_toArray, List.set_cons_zero, List.set_cons_succ]
      refine wpHJ_only 10 (by kernel_rfl) rfl ?_
      intro K hK
      go_simp
      refine hK _ _ (.inl rfl) ?_
      clear hK K
      refine wpHJ_done (by kernel_rfl) ?_ _
      simp only [onlyN, Exit.then]
      clear hFa
      clear hSK
      have HKW := hid (((HK10.out.fr HFK.out).word (HR10.out.fr0 HFK.out).1 ⟨HR10.out.ox, HR10.out.bx⟩))
      have HV := hid HR10.out.st.c.b.vars
      have HBW := hid (HR10.out.st.fr)
      have es : lessS (turnB ax) (turnB ay) false = lessS ax ay true := by simp [lessS]
      have ea : decide (ax = List.replicate W false) = !(ax.any id) := by rw [← HAL.out]; exact any_zeros ax
      have ec : chooseB bc ax ax = ax := by unfold chooseB; split <;> rfl
      have v1 := isc_of (ck := ck) HKW.out HKO.out HV.out HRK.out (z := z6) (b := lessS ax ay true) (by simp)
      have v2 := isc_of (ck := ck) HKW.out HKO.out HV.out HRK.out (z := z7) (b := lessS (turnB ax) (turnB ay) false) (by simp)
      have v3 := isc_of (ck := ck) HKW.out HKO.out HV.out HRK.out (z := z9) (b := ax.any id) (by simp)
      have v4 := isc_of (ck := ck) HKW.out HKO.out HV.out HRK.out (z := z10) (b := decide (ax = List.replicate W false)) (by simp)
      have v5 := valc_of (ck := ck) HKW.out HKO.out HV.out HRK.out (v := .slice p8 W c8) (zs := zs8) (bs := chooseB bc ax ax) (by simp) (by rw [ec, HAL.out]; exact hW64)
      have v6 := valc_of (ck := ck) HKW.out HKO.out HV.out HRK.out (v := .slice p1 W c1) (zs := xs) (bs := ax) (by simp) (by rw [HAL.out]; exact hW64)
      rw [es] at v2
      rw [ea] at v4
      rw [ec] at v5
      obtain ⟨s1, hs1⟩ : ∃ b, lessS ax ay true = b := ⟨_, rfl⟩
      obtain ⟨s2, hs2⟩ : ∃ b, ax.any id = b := ⟨_, rfl⟩
      obtain ⟨A, hA⟩ : ∃ n, valB ax = n := ⟨_, rfl⟩
      rw [hs1] at v1 v2
      rw [hs2] at v3 v4
      rw [hA] at v5 v6
      have H1 := hid v1; have H2 := hid v2; have H3 := hid v3; have H4 := hid v4; have H5 := hid v5; have H6 := hid v6
      clear v1 v2 v3 v4 v5 v6 hs1 hs2 hA es ea ec HKW HKO HV HRK HK5 HK6 HK7 HK8 HK9 HK10 HR5 HR6 HR7 HR8 HR9 HT5 HT6 HT7 HT8 HT9 HT10 HTa HTb HKa HKb HTd HKd HRa HRb HRd HBX HBY
      have q0 := Quiet.refl wK
      go_wp2_with fail
      (with_reducible refine (H1.out.use q0).mono ?_)
      rintro e u1 ⟨rfl, q1⟩
      go_wp2_with fail
      (with_reducible refine (H2.out.use q1).mono ?_)
      rintro e u2 ⟨rfl, q2⟩
      go_wp2_with fail
      (with_reducible refine (H3.out.use q2).mono ?_)
      rintro e u3 ⟨rfl, q3⟩
      go_wp2_with fail
      (with_reducible refine (H4.out.use q3).mono ?_)
      rintro e u4 ⟨rfl, q4⟩
      go_wp2_with fail
      (with_reducible refine (H5.out.use q4).mono ?_)
      rintro e u5 ⟨rfl, q5⟩
      go_wp2_with fail
      (with_reducible refine (H6.out.use q5).mono ?_)
      rintro e u6 ⟨rfl, q6⟩
      have hbF := q6.below (below_tr' (below_tr' HB0.out HBW.out (Nat.le_refl _)) HBK.out (Nat.le_refl _))
      have HBF := hid hbF
      clear hbF HB0 HBW HBK HFK q0 q1 q2 q3 q4 q5 q6 H1 H2 H3 H4 H5 H6
      cases s2
      all_goals
        go_wp2_with (go_at_call 30; refine (awake_any _).mono ?_; rintro e w9 ⟨rfl, hb9⟩)
        go_ret
        exact ⟨rfl, below_tr' HBF.out hb9 (Nat.le_refl _)⟩
end Go.Proofs.Ytngimdbjcelkeaa
