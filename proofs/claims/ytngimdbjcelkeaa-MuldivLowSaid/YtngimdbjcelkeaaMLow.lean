/-
  The walk of MuldivLow.
-/
import Derived.Test.YtngimdbjcelkeaaMBackF
namespace Go.Proofs.Ytngimdbjcelkeaa
set_option linter.unusedSimpArgs false
set_option linter.unusedVariables false
open Go.RowKit Go.Shelf

theorem Ints.take {R : Nat → Prop} {w : World} {p : Option Addr} {n c : Nat} {xs : List Int} (h : Ints R w (.slice p n c) xs) (k : Nat) (hk : k ≤ n) : Ints R w (.slice p k c) (xs.take k) := by
  obtain ⟨p', c', e, h1, h2, h3, hr⟩ := h.op
  injection e with e1 e2 e3
  subst e1 e2 e3
  have hl : (xs.take k).length = k := by rw [List.length_take]; omega
  exact ⟨_, _, by rw [List.length_map, hl], by rw [List.length_map, hl]; omega, h2, by rw [List.length_map, hl]; omega, by rw [List.map_take]; exact hr.take k⟩
theorem low_math (ax ay : List Bool) (W k : Nat) (hk : k ≤ W) : valB ((ofB W (valB ax * valB ay)).take k) = valB (ofB k (valB (ax.take k) * valB (ay.take k))) := by
  rw [valB_takeM, valB_ofB, valB_ofB, valB_takeM, valB_takeM, ← Nat.mul_mod, Nat.mod_mod_of_dvd _ (Nat.pow_dvd_pow 2 hk)]
attribute [local go_sem] Oper.semAt_some

set_option maxRecDepth 100000 in
set_option maxHeartbeats 6400000 in
theorem low_walk (z cr : Int) (vals : List Bool) (lx ly : List Int) (vv vx vy : Value) (w : World) (hz : -9223372036854775808 ≤ z ∧ z ≤ 9223372036854775807) (hcr : -9223372036854775808 ≤ cr ∧ cr ≤ 9223372036854775807)
    (hv : Bools (· < w.heap.size) w vv vals) (hx : Ints (· < w.heap.size) w vx lx) (hy : Ints (· < w.heap.size) w vy ly)
    (hlx : ∀ x ∈ lx, -9223372036854775808 ≤ x ∧ x ≤ 9223372036854775807) (hly : ∀ x ∈ ly, -9223372036854775808 ≤ x ∧ x ≤ 9223372036854775807) :
    Calls Try.prog 15 #[.agg #[.int .i64 z, vv, vx, vy], .int .i64 cr] w fun e w' => e = .returned (.bool true) ∧ Below w.heap.size w w' := by
  have hmk := fun (wc : World) (hbc : Below w.heap.size w wc) => make_mk (z % 18) vals lx ly vv vx vy wc (by omega) (hv.keep fun k hk => ⟨Nat.lt_of_lt_of_le hk hbc.size, hbc.block k hk⟩) (hx.keep fun k hk => ⟨Nat.lt_of_lt_of_le hk hbc.size, hbc.block k hk⟩) (hy.keep fun k hk => ⟨Nat.lt_of_lt_of_le hk hbc.size, hbc.block k hk⟩) hlx hly (((z % 18) % 64).toNat + 1) rfl
  have hW1 : 1 ≤ ((z % 18) % 64).toNat + 1 := by omega
  have hW18 : ((z % 18) % 64).toNat + 1 ≤ 18 := by omega
  generalize ((z % 18) % 64).toNat + 1 = W at *
  obtain ⟨pv, cv, rfl, _, _, _, _⟩ := hv.op
  obtain ⟨px, cx, rfl, _, _, _, _⟩ := hx.op
  obtain ⟨py, cy, rfl, _, _, _, _⟩ := hy.op
  have hW64 : W ≤ 64 := by omega
  have HMK := hid hmk
  have HCUT := hid (fun w' => cut_any z pv px py vals.length cv lx.length cx ly.length cy w' hz)
  have hb0 : Below w.heap.size w (w.alloc (.cells #[.int .i64 z, .slice pv vals.length cv, .slice px lx.length cx, .slice py ly.length cy] 25)) := (Below.refl _ _).alloc (Nat.le_refl _) _
  have HB0 := hid hb0
  clear hmk hv hx hy hlx hly hb0
  go_enter Try.func15, Try.ntmps15
  go_wp2_with fail
  (with_reducible refine (HCUT.out _).mono ?_)
  rintro e wc ⟨rfl, hbc⟩
  have hbc := below_tr' HB0.out hbc (by simp)
  have HMC := hid (HMK.out wc hbc)
  have HBC := hid hbc
  clear hbc HMK HCUT HB0
  go_wp2_with fail
  (with_reducible refine HMC.out.mono ?_)
  rintro e w3 ⟨bb, σ0, vin, vval, v1, v2, va, vb, xs, ys, rfl, hC, hxl, hyl, hxo, hyo, ix, iy, ia, ib, hbe, hbb, hlo⟩
  obtain ⟨pi, ci, rfl, _, _, _⟩ := hC.inp.opn (insM_len _)
  obtain ⟨pw, cw, rfl, _, _, _⟩ := hC.val.opn (valsM_len _ _)
  obtain ⟨p1, c1, rfl, _, _, _⟩ := ix.opn hxl
  obtain ⟨p2, c2, rfl, _, _, _⟩ := iy.opn hyl
  obtain ⟨p3, c3, rfl, _, _, _⟩ := ia.opn (n := W) (by rw [List.length_map]; exact hxl)
  obtain ⟨p4, c4, rfl, _, _, _⟩ := ib.opn (n := W) (by rw [List.length_map]; exact hyl)
  have HB3 := hid (show Bas wc bb (2 * W) _ _ (2 * W + 1) 1 w3 σ0 ⟨2 * W + 1, [[1]]⟩ from ⟨St.mk hC hbe hlo, Nat.le_refl _, Nat.le_refl _⟩)
  have HAL := hid (show (xs.map (litT σ0)).length = W by rw [List.length_map, hxl])
  have HBL := hid (show (ys.map (litT σ0)).length = W by rw [List.length_map, hyl])
  have HK3 := hid (((Kit.nil (bb := bb)).word iy (show LitsAre σ0 ⟨2 * W + 1, [[1]]⟩ ys _ from ⟨hyo, rfl⟩)).word ix (show LitsAre σ0 ⟨2 * W + 1, [[1]]⟩ xs _ from ⟨hxo, rfl⟩))
  have HIA3 := hid ia
  have HIB3 := hid ib
  clear hC hbe hlo hxl hyl hxo hyo ix iy ia ib hbb
  generalize xs.map (litT σ0) = ax at *
  generalize ys.map (litT σ0) = ay at *
  go_wp2_with fail
  obtain ⟨hB4, hT4, hsz4, hf4⟩ := HB3.out.box _ rfl
  generalize hw4 : World.alloc w3 _ = w4 at *
  clear hw4
  have HB := hid hB4; have HT := hid hT4; have HK := hid (HK3.out.fr hf4); have HIA := hid (HIA3.out.fr hf4); have HIB := hid (HIB3.out.fr hf4)
  have hS4 := hT4.boxS
  have hq1 : W * W ≤ 324 := by
    have := Nat.mul_le_mul hW18 hW18
    omega
  have hq2 : 3 * W * (W - 1) ≤ 918 := by
    have := Nat.mul_le_mul (show 3 * W ≤ 54 by omega) (show W - 1 ≤ 17 by omega)
    omega
  have hq3 : 18 * W * (W - 1) ≤ 5508 := by
    have := Nat.mul_le_mul (show 18 * W ≤ 324 by omega) (show W - 1 ≤ 17 by omega)
    omega
  have hq4 : W * (6 * W + 1) ≤ 1962 := by
    have := Nat.mul_le_mul hW18 (show 6 * W + 1 ≤ 109 by omega)
    omega
  have hq5 : W * (36 * W + 6) ≤ 11772 := by
    have := Nat.mul_le_mul hW18 (show 36 * W + 6 ≤ 654 by omega)
    omega
  have HQ := hid (And.intro hq1 (And.intro hq2 (And.intro hq3 (And.intro hq4 hq5))))
  clear hB4 hT4 hsz4 hf4 HB3 HK3 HIA3 HIB3 HMC hq1 hq2 hq3 hq4 hq5
  have hS := hS4
  clear hS4
  obtain ⟨hq1, hq2, hq3, hq4, hq5⟩ := HQ.out
  have hm0 := Int.emod_nonneg cr (show (W : Int) ≠ 0 by omega)
  have hm1 := Int.emod_lt_of_pos cr (show (0 : Int) < (W : Int) by omega)
  have HMOD := hid (fun w0 => mod_any cr (W : Int) w0 hcr (by omega))
  generalize cr % (W : Int) = mo at *
  obtain ⟨k, hk⟩ : ∃ k : Nat, mo + 1 = (k : Int) := ⟨(mo + 1).toNat, by omega⟩
  have hk1 : 1 ≤ k := by omega
  have hkW : k ≤ W := by omega
  have hk64 : k ≤ 64 := by omega
  have hkc1 : k ≤ c1 := by omega
  have hkc2 : k ≤ c2 := by omega
  have hp1 : k * k ≤ 324 := Nat.le_trans (Nat.mul_le_mul hkW hkW) hq1
  have hp2 : 3 * k * (k - 1) ≤ 918 := Nat.le_trans (Nat.mul_le_mul (by omega) (by omega)) hq2
  have hp3 : 18 * k * (k - 1) ≤ 5508 := Nat.le_trans (Nat.mul_le_mul (by omega) (by omega)) hq3
  go_wp2_with fail
  (with_reducible refine (HMOD.out _).mono ?_)
  rintro e w' ⟨rfl, rfl⟩
  clear HMOD
  have HC := hid (mul_c HB.out (m := W) hW1 hW64 (HK.out.w (.slice p1 W c1, xs, ax) (by simp)).1 (HK.out.w (.slice p2 W c2, ys, ay) (by simp)).1 (HK.out.w (.slice p1 W c1, xs, ax) (by simp)).2 (HK.out.w (.slice p2 W c2, ys, ay) (by simp)).2 HAL.out HBL.out (by omega) (by omega))
  obtain ⟨b0, b1, b2⟩ := hS
  go_wp2_with fail
  (with_reducible refine HC.out.mono ?_)
  rintro e w5 ⟨v5, zs5, σ5, F5, rfl, hB, hi, hl, hf, hx⟩
  have hz : zs5.length = W := by rw [hl.len]; exact ofB_len _ _
  obtain ⟨p5, c5, rfl, _, _, _⟩ := hi.opn hz
  have hT := HT.out.fr hf
  have hK := (HK.out.step hf hx).word hi hl
  have hS5 := hT.boxS
  have HIA5 := hid (HIA.out.fr hf); have HIB5 := hid (HIB.out.fr hf)
  clear HB HT HK HC HIA HIB b0 b1 b2
  have HB := hid hB; have HT := hid hT; have HK := hid hK; have HIA := HIA5; have HIB := HIB5; have hS := hS5
  clear hB hT hK hi hl hf hx hz HIA5 HIB5 hS5
  have hSd := hS.drew
  clear hS
  go_wp2_with fail
  have hbd : Below w5.heap.size w5 w5.drew := ⟨rfl, rfl, rfl, Nat.le_refl _, fun _ _ => rfl⟩
  have hB := HB.out.fr hbd
  have hfd := FrB.of_below HB.out.st.c.b hbd
  have hT := HT.out.fr hfd; have hK := HK.out.fr hfd
  have hIA := HIA.out.fr hfd; have hIB := HIB.out.fr hfd
  clear HB HT HK HIA HIB hbd hfd
  have HB := hid hB; have HT := hid hT; have HK := hid hK; have HIA := hid hIA; have HIB := hid hIB
  clear hB hT hK hIA hIB
  have hFa : ∀ f, Fence.wide.fn f := fun _ => trivial
  refine (wpIn_wide (n := 9)).1 ?_
  refine wpIn_onlyN ?_
  refine wpIn_region_HJ (BoxS w3.heap.size (.pointer (some ⟨bb, 0, none⟩)) (.slice pi (2 * W) ci) (.slice pw (2 * W) cw)) 13 (by kernel_rfl) ?_
  simp only [List.size_toArray, List.length_cons, List.length_nil, Nat.reduceAdd]
  refine wpHJ_pure (v := ?va0) 0 hFa rfl (by kernel_rfl) (fun _ _ _ h => h.elim) (Or.inl ⟨by rfl, ?ya0⟩) (.inr hSd) ?ra0
  case ya0 => (intro w' _; go_simp; try rfl)
  simp only [Act.put, List.getElem_toArray, List.getElem_cons_succ, List.getElem_cons_zero, List.setIfInBounds_toArray, List.set_cons_zero, List.set_cons_succ]
  refine wpHJ_take (v := ?va1) 1 hFa rfl (by kernel_rfl) (fun _ _ _ h => h.elim) (Or.inl ⟨by rfl, ?ya1⟩) hSd ?ra1
  case ya1 => (intro w' hS'; obtain ⟨s1, s2, s3⟩ := hS'; go_simp; try rfl)
  simp only [Act.put, List.getElem_toArray, List.getElem_cons_succ, List.getElem_cons_zero, List.setIfInBounds_toArray, List.set_cons_zero, List.set_cons_succ]
  refine wpHJ_pure (v := ?va2) 2 hFa rfl (by kernel_rfl) (fun _ _ _ h => h.elim) (Or.inl ⟨by rfl, ?ya2⟩) (.inr hSd) ?ra2
  case ya2 => (intro w' _; go_simp; try rfl)
  simp only [Act.put, List.getElem_toArray, List.getElem_cons_succ, List.getElem_cons_zero, List.setIfInBounds_toArray, List.set_cons_zero, List.set_cons_succ]
  refine wpHJ_pure (v := ?va3) 3 hFa rfl (by kernel_rfl) (fun _ _ _ h => h.elim) (Or.inl ⟨by rfl, ?ya3⟩) (.inr hSd) ?ra3
  case ya3 => (intro w' _; go_simp; try rfl)
  simp only [Act.put, List.getElem_toArray, List.getElem_cons_succ, List.getElem_cons_zero, List.setIfInBounds_toArray, List.set_cons_zero, List.set_cons_succ]
  refine wpHJ_pure (v := ?va4) 4 hFa rfl (by kernel_rfl) (fun _ _ _ h => h.elim) (Or.inl ⟨by rfl, ?ya4⟩) (.inr hSd) ?ra4
  case ya4 => (intro w' _; go_simp; try rfl)
  simp only [Act.put, List.getElem_toArray, List.getElem_cons_succ, List.getElem_cons_zero, List.setIfInBounds_toArray, List.set_cons_zero, List.set_cons_succ]
  refine wpHJ_pure (v := ?va5) 5 hFa rfl (by kernel_rfl) (fun _ _ _ h => h.elim) (Or.inl ⟨by rfl, ?ya5⟩) (.inr hSd) ?ra5
  case ya5 => (intro w' _; go_simp; try rfl)
  simp only [Act.put, List.getElem_toArray, List.getElem_cons_succ, List.getElem_cons_zero, List.setIfInBounds_toArray, List.set_cons_zero, List.set_cons_succ]
  refine wpHJ_pure (v := ?va6) 6 hFa rfl (by kernel_rfl) (fun _ _ _ h => h.elim) (Or.inl ⟨by rfl, ?ya6⟩) (.inr hSd) ?ra6
  case ya6 => (intro w' _; go_simp; try rfl)
  simp only [Act.put, List.getElem_toArray, List.getElem_cons_succ, List.getElem_cons_zero, List.setIfInBounds_toArray, List.set_cons_zero, List.set_cons_succ]
  refine wpHJ_pure (v := ?va7) 7 hFa rfl (by kernel_rfl) (fun _ _ _ h => h.elim) (Or.inl ⟨by rfl, ?ya7⟩) (.inr hSd) ?ra7
  case ya7 => (intro w' _; go_simp; try rfl)
  simp only [Act.put, List.getElem_toArray, List.getElem_cons_succ, List.getElem_cons_zero, List.setIfInBounds_toArray, List.set_cons_zero, List.set_cons_succ]
  refine wpHJ_only 8 (by kernel_rfl) rfl ?_
  intro K hK
  go_simp
  have HC := hid (mul_c HB.out (m := k) hk1 hk64 ((HK.out.w (.slice p1 W c1, xs, ax) (by simp)).1.take k hkW) ((HK.out.w (.slice p2 W c2, ys, ay) (by simp)).1.take k hkW) ((HK.out.w (.slice p1 W c1, xs, ax) (by simp)).2.take k) ((HK.out.w (.slice p2 W c2, ys, ay) (by simp)).2.take k) (by rw [List.length_take, HAL.out]; omega) (by rw [List.length_take, HBL.out]; omega) (by omega) (by omega))
  (with_reducible refine (callsIn_wide.2 HC.out).mono ?_)
  rintro e w6 ⟨v6, zs6, σ6, F6, rfl, hB, hi, hl, hf, hx⟩
  have hz : zs6.length = k := by rw [hl.len]; exact ofB_len _ _
  obtain ⟨p6, c6, rfl, _, _, _⟩ := hi.opn hz
  have hT := HT.out.fr hf
  have hK := (HK.out.step hf hx).word hi hl
  have hS6 := hT.boxS
  have HIA6 := hid (HIA.out.fr hf); have HIB6 := hid (HIB.out.fr hf)
  clear HB HT HK HC HIA HIB hSd
  have HB := hid hB; have HT := hid hT; have HK := hid hK; have HIA := HIA6; have HIB := HIB6; have hS := hS6
  clear hB hT hK hi hl hf hx hz HIA6 HIB6 hS6
  refine hK _ _ (.inr (.inr hS)) ?_
  clear hK K
  refine wpHJ_pure (v := ?va9) 9 hFa rfl (by kernel_rfl) (fun _ _ _ h => h.elim) (Or.inl ⟨by rfl, ?ya9⟩) (.inr hS) ?ra9
  case ya9 => (intro w' _; go_simp; try rfl)
  simp only [Act.put, List.getElem_toArray, List.getElem_cons_succ, List.getElem_cons_zero, List.setIfInBounds_toArray, List.set_cons_zero, List.set_cons_succ]
  refine wpHJ_pure (v := ?va10) 10 hFa rfl (by kernel_rfl) (fun _ _ _ h => h.elim) (Or.inl ⟨by rfl, ?ya10⟩) (.inr hS) ?ra10
  case ya10 => (intro w' _; go_simp; try rfl)
  simp only [Act.put, List.getElem_toArray, List.getElem_cons_succ, List.getElem_cons_zero, List.setIfInBounds_toArray, List.set_cons_zero, List.set_cons_succ]
  refine wpHJ_pure (v := ?va11) 11 hFa rfl (by kernel_rfl) (fun _ _ _ h => h.elim) (Or.inl ⟨by rfl, ?ya11⟩) (.inr hS) ?ra11
  case ya11 => (intro w' _; go_simp; try rfl)
  simp only [Act.put, List.getElem_toArray, List.getElem_cons_succ, List.getElem_cons_zero, List.setIfInBounds_toArray, List.set_cons_zero, List.set_cons_succ]
  refine wpHJ_pure (v := ?va12) 12 hFa rfl (by kernel_rfl) (fun _ _ _ h => h.elim) (Or.inl ⟨by rfl, ?ya12⟩) (.inr hS) ?ra12
  case ya12 => (intro w' _; go_simp; try rfl)
  simp only [Act.put, List.getElem_toArray, List.getElem_cons_succ, List.getElem_cons_zero, List.setIfInBounds_toArray, List.set_cons_zero, List.set_cons_succ]
  refine wpHJ_only 13 (by kernel_rfl) rfl ?_
  intro K hK
  go_simp
  refine hK _ _ (.inl rfl) ?_
  clear hK K
  refine wpHJ_done (by kernel_rfl) ?_ _
  simp only [onlyN, Exit.then]
  clear hFa
  clear hp1 hp2 hp3 hq1 hq2 hq3 hq4 hq5 HQ
  have hSd := hS.drew
  clear hS
  go_wp2_with fail
  have hbd : Below w6.heap.size w6 w6.drew := ⟨rfl, rfl, rfl, Nat.le_refl _, fun _ _ => rfl⟩
  have hCd := HB.out.st.c.below hbd
  have hlt := HT.out.lt
  have HCd := hid hCd
  clear hbd hCd
  have hFa : ∀ f, Fence.wide.fn f := fun _ => trivial
  refine (wpIn_wide (n := 9)).1 ?_
  refine wpIn_onlyN ?_
  refine wpIn_region_HJ (BoxS w3.heap.size (.pointer (some ⟨bb, 0, none⟩)) (.slice pi (2 * W) ci) (.slice pw (2 * W) cw)) 10 (by kernel_rfl) ?_
  simp only [List.size_toArray, List.length_cons, List.length_nil, Nat.reduceAdd]
  refine wpHJ_pure (v := ?vc0) 0 hFa rfl (by kernel_rfl) (fun _ _ _ h => h.elim) (Or.inl ⟨by rfl, ?yc0⟩) (.inr hSd) ?rc0
  case yc0 => (intro w' _; go_simp; try rfl)
  simp only [Act.put, List.getElem_toArray, List.getElem_cons_succ, List.getElem_cons_zero, List.setIfInBounds_toArray, List.set_cons_zero, List.set_cons_succ]
  refine wpHJ_take (v := ?vc1) 1 hFa rfl (by kernel_rfl) (fun _ _ _ h => h.elim) (Or.inl ⟨by rfl, ?yc1⟩) hSd ?rc1
  case yc1 => (intro w' hS'; obtain ⟨s1, s2, s3⟩ := hS'; go_simp; try rfl)
  simp only [Act.put, List.getElem_toArray, List.getElem_cons_succ, List.getElem_cons_zero, List.setIfInBounds_toArray, List.set_cons_zero, List.set_cons_succ]
  refine wpHJ_take (v := ?vc3) 3 hFa rfl (by kernel_rfl) (fun _ _ _ h => h.elim) (Or.inl ⟨by rfl, ?yc3⟩) hSd ?rc3
  case yc3 => (intro w' hS'; obtain ⟨s1, s2, s3⟩ := hS'; go_simp; try rfl)
  simp only [Act.put, List.getElem_toArray, List.getElem_cons_succ, List.getElem_cons_zero, List.setIfInBounds_toArray, List.set_cons_zero, List.set_cons_succ]
  refine wpHJ_only 2 (by kernel_rfl) rfl ?_
  intro K hK
  go_simp
  (with_reducible refine (callsIn_wide.2 (formula_any bb _ _ HCd.out.b (good_len HCd.out.good))).mono ?_)
  rintro e wF ⟨vc, rfl, hLL, hbF⟩
  obtain ⟨pc, cc, vs, rfl, _, _, _, _, _, _⟩ := hLL.op
  have hSF := BoxS.below hSd hbF hlt
  refine hK _ _ (.inr (.inr hSF)) ?_
  clear hK K
  refine wpHJ_only 4 (by kernel_rfl) rfl ?_
  intro K hK
  go_simp
  (with_reducible refine (callsIn_wide.2 (asm_c (HCd.out.below hbF))).mono ?_)
  rintro e wA ⟨va, rfl, hva, hbA⟩
  have hSA := hSF.below hbA (Nat.lt_of_lt_of_le hlt hbF.size)
  refine hK _ _ (.inr (.inr hSA)) ?_
  clear hK K
  refine wpHJ_only 5 (by kernel_rfl) rfl ?_
  intro K hK
  go_simp
  have hdc := dec_c (w := wA) HCd.out.good HCd.out.n HCd.out.b.vars HCd.out.b.cls (hLL.keep fun k hk => ⟨Nat.lt_of_lt_of_le hk.2 hbA.size, hbA.block k hk.2⟩) (hva.weaken fun k hk => hk.2)
  (with_reducible refine (callsIn_wide.2 hdc).mono ?_)
  rintro e wK ⟨pk, ck, kk, rfl, hrk, hKO, hbK⟩
  have hbFA := below_tr' hbF hbA (Nat.le_refl _)
  have hbFK := below_tr' hbFA hbK (Nat.le_refl _)
  have hbW : Below w6.heap.size w6 wK := ⟨hbFK.os, hbFK.tape, hbFK.output, hbFK.size, hbFK.block⟩
  have hSK := hSA.below hbK (Nat.lt_of_lt_of_le hlt hbFA.size)
  have HBK := hid hbW; have HRK := hid hrk; have HKO := hid hKO
  have HFK := hid (FrB.of_below HB.out.st.c.b hbW)
  clear hdc hbF hbA hbK hbFA hbFK hbW hrk hKO hva hLL hSF hSA hSd
  refine hK _ _ (.inr (.inr hSK)) ?_
  clear hK K
  refine wpHJ_pure (v := ?vc6) 6 hFa rfl (by kernel_rfl) (fun _ _ _ h => h.elim) (Or.inl ⟨by rfl, ?yc6⟩) (.inr hSK) ?rc6
  case yc6 => (intro w' _; go_simp; try rfl)
  simp only [Act.put, List.getElem_toArray, List.getElem_cons_succ, List.getElem_cons_zero, List.setIfInBounds_toArray, List.set_cons_zero, List.set_cons_succ]
  refine wpHJ_pure (v := ?vc7) 7 hFa rfl (by kernel_rfl) (fun _ _ _ h => h.elim) (Or.inl ⟨by rfl, ?yc7⟩) (.inr hSK) ?rc7
  case yc7 => (intro w' _; go_simp; try rfl)
  simp only [Act.put, List.getElem_toArray, List.getElem_cons_succ, List.getElem_cons_zero, List.setIfInBounds_toArray, List.set_cons_zero, List.set_cons_succ]
  refine wpHJ_pure (v := ?vc8) 8 hFa rfl (by kernel_rfl) (fun _ _ _ h => h.elim) (Or.inl ⟨by rfl, ?yc8⟩) (.inr hSK) ?rc8
  case yc8 => (intro w' _; go_simp; try rfl)
  simp only [Act.put, List.getElem_toArray, List.getElem_cons_succ, List.getElem_cons_zero, List.setIfInBounds_toArray, List.set_cons_zero, List.set_cons_succ]
  refine wpHJ_pure (v := ?vc9) 9 hFa rfl (by kernel_rfl) (fun _ _ _ h => h.elim) (Or.inl ⟨by rfl, ?yc9⟩) (.inr hSK) ?rc9
  case yc9 => (intro w' _; go_simp; try rfl)
  simp only [Act.put, List.getElem_toArray, List.getElem_cons_succ, List.getElem_cons_zero, List.setIfInBounds_toArray, List.set_cons_zero, List.set_cons_succ]
  refine wpHJ_only 10 (by kernel_rfl) rfl ?_
  intro K hK
  go_simp
  refine hK _ _ (.inl rfl) ?_
  clear hK K
  refine wpHJ_done (by kernel_rfl) ?_ _
  simp only [onlyN, Exit.then]
  clear hFa
  clear hSK
  have HKW := hid (HK.out.fr HFK.out)
  have HV := hid HB.out.st.c.b.vars
  have HBW := hid (HB.out.st.fr)
  obtain ⟨P, eP⟩ : ∃ P, valB ((ofB W (valB ax * valB ay)).take k) = P := ⟨_, rfl⟩
  have eQ := (low_math ax ay W k hkW).symm.trans eP
  have hkp : Kit bb wK σ6 F6 ((.slice p5 k c5, zs5.take k, (ofB W (valB ax * valB ay)).take k) :: _) _ := HKW.out.word ((HKW.out.w (.slice p5 W c5, zs5, ofB W (valB ax * valB ay)) (by simp)).1.take k hkW) ((HKW.out.w (.slice p5 W c5, zs5, ofB W (valB ax * valB ay)) (by simp)).2.take k)
  have v1 := valc_of (ck := ck) hkp HKO.out HV.out HRK.out (v := .slice p5 k c5) (zs := zs5.take k) (bs := (ofB W (valB ax * valB ay)).take k) (by simp) (by rw [List.length_take, ofB_len]; omega)
  have v2 := valc_of (ck := ck) hkp HKO.out HV.out HRK.out (v := .slice p6 k c6) (zs := zs6) (bs := ofB k (valB (ax.take k) * valB (ay.take k))) (by simp) (by rw [ofB_len]; omega)
  rw [eP] at v1
  rw [eQ] at v2
  have H1 := hid v1; have H2 := hid v2
  clear v1 v2 eP eQ HKW HKO HV HRK HK HB HT HIA HIB hkp
  have q0 := Quiet.refl wK
  go_wp2_with fail
  (with_reducible refine (H1.out.use q0).mono ?_)
  rintro e t11 ⟨rfl, q1⟩
  go_wp2_with fail
  (with_reducible refine (H2.out.use q1).mono ?_)
  rintro e t12 ⟨rfl, q2⟩
  have hbF := q2.below (below_tr' (below_tr' HBC.out HBW.out (Nat.le_refl _)) HBK.out (Nat.le_refl _))
  have HBF := hid hbF
  clear hbF HBW HBK HFK q0 q1 q2 H1 H2
  go_wp2_with (go_at_call 61; refine (awake17_any _).mono ?_; rintro e w9 ⟨rfl, hb9⟩)
  go_ret
  exact ⟨rfl, below_tr' HBF.out hb9 (Nat.le_refl _)⟩
end Go.Proofs.Ytngimdbjcelkeaa
