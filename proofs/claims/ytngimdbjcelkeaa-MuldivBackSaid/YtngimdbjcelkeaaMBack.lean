/-
  The walk of MuldivBack.
-/
import Derived.Test.YtngimdbjcelkeaaMBackF
namespace Go.Proofs.Ytngimdbjcelkeaa
set_option linter.unusedSimpArgs false
set_option linter.unusedVariables false
open Go.RowKit Go.Shelf
attribute [local go_sem] Oper.semAt_some

set_option maxRecDepth 100000 in
set_option maxHeartbeats 6400000 in
theorem back_walk (z : Int) (vals : List Bool) (lx ly : List Int) (vv vx vy : Value) (w : World) (hz : -9223372036854775808 ≤ z ∧ z ≤ 9223372036854775807)
    (hv : Bools (· < w.heap.size) w vv vals) (hx : Ints (· < w.heap.size) w vx lx) (hy : Ints (· < w.heap.size) w vy ly)
    (hlx : ∀ x ∈ lx, -9223372036854775808 ≤ x ∧ x ≤ 9223372036854775807) (hly : ∀ x ∈ ly, -9223372036854775808 ≤ x ∧ x ≤ 9223372036854775807) :
    Calls Try.prog 12 #[.agg #[.int .i64 z, vv, vx, vy]] w fun e w' => e = .returned (.bool true) ∧ Below w.heap.size w w' := by
  have hmk := fun (wc : World) (hbc : Below w.heap.size w wc) => make_mk (z % 18) vals lx ly vv vx vy wc (by omega) (hv.keep fun k hk => ⟨Nat.lt_of_lt_of_le hk hbc.size, hbc.block k hk⟩) (hx.keep fun k hk => ⟨Nat.lt_of_lt_of_le hk hbc.size, hbc.block k hk⟩) (hy.keep fun k hk => ⟨Nat.lt_of_lt_of_le hk hbc.size, hbc.block k hk⟩) hlx hly (((z % 18) % 64).toNat + 1) rfl
  have hW1 : 1 ≤ ((z % 18) % 64).toNat + 1 := by omega
  have hW18 : ((z % 18) % 64).toNat + 1 ≤ 18 := by omega
  generalize ((z % 18) % 64).toNat + 1 = W at *
  obtain ⟨pv, cv, rfl, _, _, _, _⟩ := hv.op
  obtain ⟨px, cx, rfl, _, _, _, _⟩ := hx.op
  obtain ⟨py, cy, rfl, _, _, _, _⟩ := hy.op
  have hW64 : W ≤ 64 := by omega
  have HMK := hid hmk
  have HCUT := hid (fun w' => cut_any z pv px py vals.length cv lx.length cx ly.length cy w' hz)
  have hb0 : Below w.heap.size w (w.alloc (.cells #[.int .i64 z, .slice pv vals.length cv, .slice px lx.length cx, .slice py ly.length cy] 25)) := (Below.refl _ _).alloc (Nat.le_refl _) _
  have HB0 := hid hb0
  clear hmk hv hx hy hlx hly hb0
  go_enter Try.func12, Try.ntmps12
  go_wp2_with fail
  (with_reducible refine (HCUT.out _).mono ?_)
  rintro e wc ⟨rfl, hbc⟩
  have hbc := below_tr' HB0.out hbc (by simp)
  have HMC := hid (HMK.out wc hbc)
  have HBC := hid hbc
  clear hbc HMK HCUT HB0
  go_wp2_with fail
  (with_reducible refine HMC.out.mono ?_)
  rintro e w3 ⟨bb, σ0, vin, vval, v1, v2, va, vb, xs, ys, rfl, hC, hxl, hyl, hxo, hyo, ix, iy, ia, ib, hbe, hbb, hlo⟩
  obtain ⟨pi, ci, rfl, _, _, _⟩ := hC.inp.opn (insM_len _)
  obtain ⟨pw, cw, rfl, _, _, _⟩ := hC.val.opn (valsM_len _ _)
  obtain ⟨p1, c1, rfl, _, _, _⟩ := ix.opn hxl
  obtain ⟨p2, c2, rfl, _, _, _⟩ := iy.opn hyl
  obtain ⟨p3, c3, rfl, _, _, _⟩ := ia.opn (n := W) (by rw [List.length_map]; exact hxl)
  obtain ⟨p4, c4, rfl, _, _, _⟩ := ib.opn (n := W) (by rw [List.length_map]; exact hyl)
  have HB3 := hid (show Bas wc bb (2 * W) _ _ (2 * W + 1) 1 w3 σ0 ⟨2 * W + 1, [[1]]⟩ from ⟨St.mk hC hbe hlo, Nat.le_refl _, Nat.le_refl _⟩)
  have HAL := hid (show (xs.map (litT σ0)).length = W by rw [List.length_map, hxl])
  have HBL := hid (show (ys.map (litT σ0)).length = W by rw [List.length_map, hyl])
  have HK3 := hid (((Kit.nil (bb := bb)).word iy (show LitsAre σ0 ⟨2 * W + 1, [[1]]⟩ ys _ from ⟨hyo, rfl⟩)).word ix (show LitsAre σ0 ⟨2 * W + 1, [[1]]⟩ xs _ from ⟨hxo, rfl⟩))
  have HIA3 := hid ia
  have HIB3 := hid ib
  clear hC hbe hlo hxl hyl hxo hyo ix iy ia ib hbb
  generalize xs.map (litT σ0) = ax at *
  generalize ys.map (litT σ0) = ay at *
  go_wp2_with fail
  obtain ⟨hB4, hT4, hsz4, hf4⟩ := HB3.out.box _ rfl
  generalize hw4 : World.alloc w3 _ = w4 at *
  clear hw4
  have HB := hid hB4; have HT := hid hT4; have HK := hid (HK3.out.fr hf4); have HIA := hid (HIA3.out.fr hf4); have HIB := hid (HIB3.out.fr hf4)
  have hS4 := hT4.boxS
  have hq1 : W * W ≤ 324 := by
    have := Nat.mul_le_mul hW18 hW18
    omega
  have hq2 : 3 * W * (W - 1) ≤ 918 := by
    have := Nat.mul_le_mul (show 3 * W ≤ 54 by omega) (show W - 1 ≤ 17 by omega)
    omega
  have hq3 : 18 * W * (W - 1) ≤ 5508 := by
    have := Nat.mul_le_mul (show 18 * W ≤ 324 by omega) (show W - 1 ≤ 17 by omega)
    omega
  have hq4 : W * (6 * W + 1) ≤ 1962 := by
    have := Nat.mul_le_mul hW18 (show 6 * W + 1 ≤ 109 by omega)
    omega
  have hq5 : W * (36 * W + 6) ≤ 11772 := by
    have := Nat.mul_le_mul hW18 (show 36 * W + 6 ≤ 654 by omega)
    omega
  have HQ := hid (And.intro hq1 (And.intro hq2 (And.intro hq3 (And.intro hq4 hq5))))
  clear hB4 hT4 hsz4 hf4 HB3 HK3 HIA3 HIB3 HMC hq1 hq2 hq3 hq4 hq5
  have hS := hS4
  clear hS4
  obtain ⟨hq1, hq2, hq3, hq4, hq5⟩ := HQ.out
  have HC := hid (div_c HB.out (m := W) hW1 hW64 (HK.out.w (.slice p1 W c1, xs, ax) (by simp)).1 (HK.out.w (.slice p2 W c2, ys, ay) (by simp)).1 (HK.out.w (.slice p1 W c1, xs, ax) (by simp)).2 (HK.out.w (.slice p2 W c2, ys, ay) (by simp)).2 HAL.out HBL.out (by omega) (by omega))
  obtain ⟨b0, b1, b2⟩ := hS
  go_wp2_with fail
  (with_reducible refine HC.out.mono ?_)
  rintro e w5 ⟨v5, zs5, u5, us5, σ5, F5, rfl, hB, hi, hl, hi2, hl2, hf, hx⟩
  have hz : zs5.length = W := by rw [hl.len]; exact ofB_len _ _
  have hz2 : us5.length = W := by rw [hl2.len]; exact ofB_len _ _
  obtain ⟨p5, c5, rfl, _, _, _⟩ := hi.opn hz
  obtain ⟨q5, d5, rfl, _, _, _⟩ := hi2.opn hz2
  have hT := HT.out.fr hf
  have hK := ((HK.out.step hf hx).word hi hl).word hi2 hl2
  have hS5 := hT.boxS
  have HIA5 := hid (HIA.out.fr hf); have HIB5 := hid (HIB.out.fr hf)
  clear HB HT HK HC HIA HIB b0 b1 b2
  have HB := hid hB; have HT := hid hT; have HK := hid hK; have HIA := HIA5; have HIB := HIB5; have hS := hS5
  clear hB hT hK hi hl hf hx hz hi2 hl2 hz2 HIA5 HIB5 hS5
  have HC := hid (mul_c HB.out (m := W) hW1 hW64 (HK.out.w (.slice p5 W c5, zs5, (ofB W (divQ W (valB ax) (valB ay)))) (by simp)).1 (HK.out.w (.slice p2 W c2, ys, ay) (by simp)).1 (HK.out.w (.slice p5 W c5, zs5, (ofB W (divQ W (valB ax) (valB ay)))) (by simp)).2 (HK.out.w (.slice p2 W c2, ys, ay) (by simp)).2 (ofB_len _ _) HBL.out (by omega) (by omega))
  obtain ⟨b0, b1, b2⟩ := hS
  go_wp2_with fail
  (with_reducible refine HC.out.mono ?_)
  rintro e w6 ⟨v6, zs6, σ6, F6, rfl, hB, hi, hl, hf, hx⟩
  have hz : zs6.length = W := by rw [hl.len]; exact ofB_len _ _
  obtain ⟨p6, c6, rfl, _, _, _⟩ := hi.opn hz
  have hT := HT.out.fr hf
  have hK := (HK.out.step hf hx).word hi hl
  have hS6 := hT.boxS
  have HIA6 := hid (HIA.out.fr hf); have HIB6 := hid (HIB.out.fr hf)
  clear HB HT HK HC HIA HIB b0 b1 b2
  have HB := hid hB; have HT := hid hT; have HK := hid hK; have HIA := HIA6; have HIB := HIB6; have hS := hS6
  clear hB hT hK hi hl hf hx hz HIA6 HIB6 hS6
  have HC := hid (mul_c HB.out (m := W) hW1 hW64 (HK.out.w (.slice p2 W c2, ys, ay) (by simp)).1 (HK.out.w (.slice p5 W c5, zs5, (ofB W (divQ W (valB ax) (valB ay)))) (by simp)).1 (HK.out.w (.slice p2 W c2, ys, ay) (by simp)).2 (HK.out.w (.slice p5 W c5, zs5, (ofB W (divQ W (valB ax) (valB ay)))) (by simp)).2 HBL.out (ofB_len _ _) (by omega) (by omega))
  obtain ⟨b0, b1, b2⟩ := hS
  go_wp2_with fail
  (with_reducible refine HC.out.mono ?_)
  rintro e w7 ⟨v7, zs7, σ7, F7, rfl, hB, hi, hl, hf, hx⟩
  have hz : zs7.length = W := by rw [hl.len]; exact ofB_len _ _
  obtain ⟨p7, c7, rfl, _, _, _⟩ := hi.opn hz
  have hT := HT.out.fr hf
  have hK := (HK.out.step hf hx).word hi hl
  have hS7 := hT.boxS
  have HIA7 := hid (HIA.out.fr hf); have HIB7 := hid (HIB.out.fr hf)
  clear HB HT HK HC HIA HIB b0 b1 b2
  have HB := hid hB; have HT := hid hT; have HK := hid hK; have HIA := HIA7; have HIB := HIB7; have hS := hS7
  clear hB hT hK hi hl hf hx hz HIA7 HIB7 hS7
  clear hq1 hq2 hq3 hq4 hq5
  have hSd := hS.drew
  clear hS
  go_wp2_with fail
  have hbd : Below w7.heap.size w7 w7.drew := ⟨rfl, rfl, rfl, Nat.le_refl _, fun _ _ => rfl⟩
  have hCd := HB.out.st.c.below hbd
  have hlt := HT.out.lt
  have HCd := hid hCd
  clear hbd hCd
  have hFa : ∀ f, Fence.wide.fn f := fun _ => trivial
  refine (wpIn_wide (n := 9)).1 ?_
  refine wpIn_onlyN ?_
  refine wpIn_region_HJ (BoxS w3.heap.size (.pointer (some ⟨bb, 0, none⟩)) (.slice pi (2 * W) ci) (.slice pw (2 * W) cw)) 10 (by kernel_rfl) ?_
  simp only [List.size_toArray, List.length_cons, List.length_nil, Nat.reduceAdd]
  refine wpHJ_pure (v := ?vc0) 0 hFa rfl (by kernel_rfl) (fun _ _ _ h => h.elim) (Or.inl ⟨by rfl, ?yc0⟩) (.inr hSd) ?rc0
  case yc0 => (intro w' _; go_simp; try rfl)
  simp only [Act.put, List.getElem_toArray, List.getElem_cons_succ, List.getElem_cons_zero, List.setIfInBounds_toArray, List.set_cons_zero, List.set_cons_succ]
  refine wpHJ_take (v := ?vc1) 1 hFa rfl (by kernel_rfl) (fun _ _ _ h => h.elim) (Or.inl ⟨by rfl, ?yc1⟩) hSd ?rc1
  case yc1 => (intro w' hS'; obtain ⟨s1, s2, s3⟩ := hS'; go_simp; try rfl)
  simp only [Act.put, List.getElem_toArray, List.getElem_cons_succ, List.getElem_cons_zero, List.setIfInBounds_toArray, List.set_cons_zero, List.set_cons_succ]
  refine wpHJ_take (v := ?vc3) 3 hFa rfl (by kernel_rfl) (fun _ _ _ h => h.elim) (Or.inl ⟨by rfl, ?yc3⟩) hSd ?rc3
  case yc3 => (intro w' hS'; obtain ⟨s1, s2, s3⟩ := hS'; go_simp; try rfl)
  simp only [Act.put, List.getElem_toArray, List.getElem_cons_succ, List.getElem_cons_zero, List.setIfInBounds_toArray, List.set_cons_zero, List.set_cons_succ]
  refine wpHJ_only 2 (by kernel_rfl) rfl ?_
  intro K hK
  go_simp
  (with_reducible refine (callsIn_wide.2 (formula_any bb _ _ HCd.out.b (good_len HCd.out.good))).mono ?_)
  rintro e wF ⟨vc, rfl, hLL, hbF⟩
  obtain ⟨pc, cc, vs, rfl, _, _, _, _, _, _⟩ := hLL.op
  have hSF := BoxS.below hSd hbF hlt
  refine hK _ _ (.inr (.inr hSF)) ?_
  clear hK K
  refine wpHJ_only 4 (by kernel_rfl) rfl ?_
  intro K hK
  go_simp
  (with_reducible refine (callsIn_wide.2 (asm_c (HCd.out.below hbF))).mono ?_)
  rintro e wA ⟨va, rfl, hva, hbA⟩
  have hSA := hSF.below hbA (Nat.lt_of_lt_of_le hlt hbF.size)
  refine hK _ _ (.inr (.inr hSA)) ?_
  clear hK K
  refine wpHJ_only 5 (by kernel_rfl) rfl ?_
  intro K hK
  go_simp
  have hdc := dec_c (w := wA) HCd.out.good HCd.out.n HCd.out.b.vars HCd.out.b.cls (hLL.keep fun k hk => ⟨Nat.lt_of_lt_of_le hk.2 hbA.size, hbA.block k hk.2⟩) (hva.weaken fun k hk => hk.2)
  (with_reducible refine (callsIn_wide.2 hdc).mono ?_)
  rintro e wK ⟨pk, ck, kk, rfl, hrk, hKO, hbK⟩
  have hbFA := below_tr' hbF hbA (Nat.le_refl _)
  have hbFK := below_tr' hbFA hbK (Nat.le_refl _)
  have hbW : Below w7.heap.size w7 wK := ⟨hbFK.os, hbFK.tape, hbFK.output, hbFK.size, hbFK.block⟩
  have hSK := hSA.below hbK (Nat.lt_of_lt_of_le hlt hbFA.size)
  have HBK := hid hbW; have HRK := hid hrk; have HKO := hid hKO
  have HFK := hid (FrB.of_below HB.out.st.c.b hbW)
  clear hdc hbF hbA hbK hbFA hbFK hbW hrk hKO hva hLL hSF hSA hSd
  refine hK _ _ (.inr (.inr hSK)) ?_
  clear hK K
  refine wpHJ_pure (v := ?vc6) 6 hFa rfl (by kernel_rfl) (fun _ _ _ h => h.elim) (Or.inl ⟨by rfl, ?yc6⟩) (.inr hSK) ?rc6
  case yc6 => (intro w' _; go_simp; try rfl)
  simp only [Act.put, List.getElem_toArray, List.getElem_cons_succ, List.getElem_cons_zero, List.setIfInBounds_toArray, List.set_cons_zero, List.set_cons_succ]
  refine wpHJ_pure (v := ?vc7) 7 hFa rfl (by kernel_rfl) (fun _ _ _ h => h.elim) (Or.inl ⟨by rfl, ?yc7⟩) (.inr hSK) ?rc7
  case yc7 => (intro w' _; go_simp; try rfl)
  simp only [Act.put, List.getElem_toArray, List.getElem_cons_succ, List.getElem_cons_zero, List.setIfInBounds_toArray, List.set_cons_zero, List.set_cons_succ]
  refine wpHJ_pure (v := ?vc8) 8 hFa rfl (by kernel_rfl) (fun _ _ _ h => h.elim) (Or.inl ⟨by rfl, ?yc8⟩) (.inr hSK) ?rc8
  case yc8 => (intro w' _; go_simp; try rfl)
  simp only [Act.put, List.getElem_toArray, List.getElem_cons_succ, List.getElem_cons_zero, List.setIfInBounds_toArray, List.set_cons_zero, List.set_cons_succ]
  refine wpHJ_pure (v := ?vc9) 9 hFa rfl (by kernel_rfl) (fun _ _ _ h => h.elim) (Or.inl ⟨by rfl, ?yc9⟩) (.inr hSK) ?rc9
  case yc9 => (intro w' _; go_simp; try rfl)
  simp only [Act.put, List.getElem_toArray, List.getElem_cons_succ, List.getElem_cons_zero, List.setIfInBounds_toArray, List.set_cons_zero, List.set_cons_succ]
  refine wpHJ_only 10 (by kernel_rfl) rfl ?_
  intro K hK
  go_simp
  refine hK _ _ (.inl rfl) ?_
  clear hK K
  refine wpHJ_done (by kernel_rfl) ?_ _
  simp only [onlyN, Exit.then]
  clear hFa
  clear hSK
  have HKW := hid (HK.out.fr HFK.out)
  have HV := hid HB.out.st.c.b.vars
  have HBW := hid (HB.out.st.fr)
  obtain ⟨A, B, R, P, eA, eB, eR, eP, eP2, t1, t2⟩ := back_math ax ay W HAL.out HBL.out hW64
  have v1 := valc_of (ck := ck) HKW.out HKO.out HV.out HRK.out (v := .slice p1 W c1) (zs := xs) (bs := ax) (by simp) (by rw [HAL.out]; exact hW64)
  have v2 := valc_of (ck := ck) HKW.out HKO.out HV.out HRK.out (v := .slice p2 W c2) (zs := ys) (bs := ay) (by simp) (by rw [HBL.out]; exact hW64)
  have v3 := valc_of (ck := ck) HKW.out HKO.out HV.out HRK.out (v := .slice q5 W d5) (zs := us5) (bs := (ofB W (valB ax % valB ay))) (by simp) (by rw [ofB_len]; exact hW64)
  have v4 := valc_of (ck := ck) HKW.out HKO.out HV.out HRK.out (v := .slice p6 W c6) (zs := zs6) (bs := (ofB W (valB (ofB W (divQ W (valB ax) (valB ay))) * valB ay))) (by simp) (by rw [ofB_len]; exact hW64)
  have v5 := valc_of (ck := ck) HKW.out HKO.out HV.out HRK.out (v := .slice p7 W c7) (zs := zs7) (bs := (ofB W (valB ay * valB (ofB W (divQ W (valB ax) (valB ay)))))) (by simp) (by rw [ofB_len]; exact hW64)
  rw [eA] at v1
  rw [eB] at v2
  rw [eR] at v3
  rw [eP] at v4
  rw [eP2] at v5
  have H1 := hid v1; have H2 := hid v2; have H3 := hid v3; have H4 := hid v4; have H5 := hid v5
  have T2 := hid t2
  have HMK := hid (fun w => mask_any W w hW1 hW64)
  clear v1 v2 v3 v4 v5 eA eB eR eP eP2 t2 HKW HKO HV HRK HK HB HT HIA HIB
  have q0 := Quiet.refl wK
  go_wp2_with fail
  (with_reducible refine (H1.out.use q0).mono ?_)
  rintro e t11 ⟨rfl, q1⟩
  go_wp2_with fail
  (with_reducible refine (H2.out.use q1).mono ?_)
  rintro e t12 ⟨rfl, q2⟩
  go_wp2_with fail
  (with_reducible refine (H3.out.use q2).mono ?_)
  rintro e t13 ⟨rfl, q3⟩
  go_wp2_with fail
  (with_reducible refine (H4.out.use q3).mono ?_)
  rintro e t14 ⟨rfl, q4⟩
  go_wp2_with fail
  (with_reducible refine (H5.out.use q4).mono ?_)
  rintro e t15 ⟨rfl, q5⟩
  have hbF := q5.below (below_tr' (below_tr' HBC.out HBW.out (Nat.le_refl _)) HBK.out (Nat.le_refl _))
  have HBF := hid hbF
  clear hbF HBW HBK HFK q0 q1 q2 q3 q4 q5 H1 H2 H3 H4 H5
  have t2 := T2.out
  rcases t2 with h0 | h0
  all_goals
    have t2 := h0
    clear T2 h0
    go_wp2_with (first
      | (go_at_call 37; refine (HMK.out _).mono ?_; rintro e w' ⟨rfl, rfl⟩)
      | (go_at_call 61; refine (awake17_any _).mono ?_; rintro e w9 ⟨rfl, hb9⟩))
    go_ret
    exact ⟨rfl, below_tr' HBF.out hb9 (Nat.le_refl _)⟩
end Go.Proofs.Ytngimdbjcelkeaa
