/-
  The walk of MuldivMul.
-/
import Derived.Test.YtngimdbjcelkeaaMRef
namespace Go.Proofs.Ytngimdbjcelkeaa
set_option linter.unusedSimpArgs false
set_option linter.unusedVariables false
open Go.RowKit Go.Shelf
attribute [local go_sem] Oper.semAt_some

set_option maxRecDepth 100000 in
set_option maxHeartbeats 6400000 in
theorem mmul_walk (z : Int) (vals : List Bool) (lx ly : List Int) (vv vx vy : Value) (w : World) (hz : -9223372036854775808 ≤ z ∧ z ≤ 9223372036854775807)
    (hv : Bools (· < w.heap.size) w vv vals) (hx : Ints (· < w.heap.size) w vx lx) (hy : Ints (· < w.heap.size) w vy ly)
    (hlx : ∀ x ∈ lx, -9223372036854775808 ≤ x ∧ x ≤ 9223372036854775807) (hly : ∀ x ∈ ly, -9223372036854775808 ≤ x ∧ x ≤ 9223372036854775807) :
    Calls Try.prog 10 #[.agg #[.int .i64 z, vv, vx, vy]] w fun e w' => e = .returned (.bool true) ∧ Below w.heap.size w w' := by
  have hmk := fun (wc : World) (hbc : Below w.heap.size w wc) => make_mk (z % 18) vals lx ly vv vx vy wc (by omega) (hv.keep fun k hk => ⟨Nat.lt_of_lt_of_le hk hbc.size, hbc.block k hk⟩) (hx.keep fun k hk => ⟨Nat.lt_of_lt_of_le hk hbc.size, hbc.block k hk⟩) (hy.keep fun k hk => ⟨Nat.lt_of_lt_of_le hk hbc.size, hbc.block k hk⟩) hlx hly (((z % 18) % 64).toNat + 1) rfl
  have hW1 : 1 ≤ ((z % 18) % 64).toNat + 1 := by omega
  have hW18 : ((z % 18) % 64).toNat + 1 ≤ 18 := by omega
  generalize ((z % 18) % 64).toNat + 1 = W at *
  obtain ⟨pv, cv, rfl, _, _, _, _⟩ := hv.op
  obtain ⟨px, cx, rfl, _, _, _, _⟩ := hx.op
  obtain ⟨py, cy, rfl, _, _, _, _⟩ := hy.op
  have hW64 : W ≤ 64 := by omega
  have HMK := hid hmk
  have HCUT := hid (fun w' => cut_any z pv px py vals.length cv lx.length cx ly.length cy w' hz)
  have hb0 : Below w.heap.size w (w.alloc (.cells #[.int .i64 z, .slice pv vals.length cv, .slice px lx.length cx, .slice py ly.length cy] 25)) := (Below.refl _ _).alloc (Nat.le_refl _) _
  have HB0 := hid hb0
  clear hmk hv hx hy hlx hly hb0
  go_enter Try.func10, Try.ntmps10
  go_wp2_with fail
  (with_reducible refine (HCUT.out _).mono ?_)
  rintro e wc ⟨rfl, hbc⟩
  have hbc := below_tr' HB0.out hbc (by simp)
  have HMC := hid (HMK.out wc hbc)
  have HBC := hid hbc
  clear hbc HMK HCUT HB0
  go_wp2_with fail
  (with_reducible refine HMC.out.mono ?_)
  rintro e w3 ⟨bb, σ0, vin, vval, v1, v2, va, vb, xs, ys, rfl, hC, hxl, hyl, hxo, hyo, ix, iy, ia, ib, hbe, hbb, hlo⟩
  obtain ⟨pi, ci, rfl, _, _, _⟩ := hC.inp.opn (insM_len _)
  obtain ⟨pw, cw, rfl, _, _, _⟩ := hC.val.opn (valsM_len _ _)
  obtain ⟨p1, c1, rfl, _, _, _⟩ := ix.opn hxl
  obtain ⟨p2, c2, rfl, _, _, _⟩ := iy.opn hyl
  obtain ⟨p3, c3, rfl, _, _, _⟩ := ia.opn (n := W) (by rw [List.length_map]; exact hxl)
  obtain ⟨p4, c4, rfl, _, _, _⟩ := ib.opn (n := W) (by rw [List.length_map]; exact hyl)
  have HB3 := hid (show Bas wc bb (2 * W) _ _ (2 * W + 1) 1 w3 σ0 ⟨2 * W + 1, [[1]]⟩ from ⟨St.mk hC hbe hlo, Nat.le_refl _, Nat.le_refl _⟩)
  have HAL := hid (show (xs.map (litT σ0)).length = W by rw [List.length_map, hxl])
  have HBL := hid (show (ys.map (litT σ0)).length = W by rw [List.length_map, hyl])
  have HK3 := hid (((Kit.nil (bb := bb)).word iy (show LitsAre σ0 ⟨2 * W + 1, [[1]]⟩ ys _ from ⟨hyo, rfl⟩)).word ix (show LitsAre σ0 ⟨2 * W + 1, [[1]]⟩ xs _ from ⟨hxo, rfl⟩))
  have HIA3 := hid ia
  have HIB3 := hid ib
  clear hC hbe hlo hxl hyl hxo hyo ix iy ia ib hbb
  generalize xs.map (litT σ0) = ax at *
  generalize ys.map (litT σ0) = ay at *
  go_wp2_with fail
  obtain ⟨hB4, hT4, hsz4, hf4⟩ := HB3.out.box _ rfl
  generalize hw4 : World.alloc w3 _ = w4 at *
  clear hw4
  have HB := hid hB4; have HT := hid hT4; have HK := hid (HK3.out.fr hf4); have HIA := hid (HIA3.out.fr hf4); have HIB := hid (HIB3.out.fr hf4)
  have hS4 := hT4.boxS
  have hq1 : W * W ≤ 324 := by
    have := Nat.mul_le_mul hW18 hW18
    omega
  have hq2 : 3 * W * (W - 1) ≤ 918 := by
    have := Nat.mul_le_mul (show 3 * W ≤ 54 by omega) (show W - 1 ≤ 17 by omega)
    omega
  have hq3 : 18 * W * (W - 1) ≤ 5508 := by
    have := Nat.mul_le_mul (show 18 * W ≤ 324 by omega) (show W - 1 ≤ 17 by omega)
    omega
  have hq4 : W * (6 * W + 1) ≤ 1962 := by
    have := Nat.mul_le_mul hW18 (show 6 * W + 1 ≤ 109 by omega)
    omega
  have hq5 : W * (36 * W + 6) ≤ 11772 := by
    have := Nat.mul_le_mul hW18 (show 36 * W + 6 ≤ 654 by omega)
    omega
  have HQ := hid (And.intro hq1 (And.intro hq2 (And.intro hq3 (And.intro hq4 hq5))))
  clear hB4 hT4 hsz4 hf4 HB3 HK3 HIA3 HIB3 HMC hq1 hq2 hq3 hq4 hq5
  have hS := hS4
  clear hS4
  obtain ⟨hq1, hq2, hq3, hq4, hq5⟩ := HQ.out
  have HC := hid (mul_c HB.out (m := W) hW1 hW64 (HK.out.w (.slice p1 W c1, xs, ax) (by simp)).1 (HK.out.w (.slice p2 W c2, ys, ay) (by simp)).1 (HK.out.w (.slice p1 W c1, xs, ax) (by simp)).2 (HK.out.w (.slice p2 W c2, ys, ay) (by simp)).2 HAL.out HBL.out (by omega) (by omega))
  obtain ⟨b0, b1, b2⟩ := hS
  go_wp2_with fail
  (with_reducible refine HC.out.mono ?_)
  rintro e w5 ⟨v5, zs5, σ5, F5, rfl, hB, hi, hl, hf, hx⟩
  have hz : zs5.length = W := by rw [hl.len]; exact ofB_len _ _
  obtain ⟨p5, c5, rfl, _, _, _⟩ := hi.opn hz
  have hT := HT.out.fr hf
  have hK := (HK.out.step hf hx).word hi hl
  have hS5 := hT.boxS
  have HIA5 := hid (HIA.out.fr hf); have HIB5 := hid (HIB.out.fr hf)
  clear HB HT HK HC HIA HIB b0 b1 b2
  have HB := hid hB; have HT := hid hT; have HK := hid hK; have HIA := HIA5; have HIB := HIB5; have hS := hS5
  clear hB hT hK hi hl hf hx hz HIA5 HIB5 hS5
  clear hq1 hq2 hq3 hq4 hq5 HQ
  have hSd := hS.drew
  clear hS
  go_wp2_with fail
  have hbd : Below w5.heap.size w5 w5.drew := ⟨rfl, rfl, rfl, Nat.le_refl _, fun _ _ => rfl⟩
  have hfd := FrB.of_below HB.out.st.c.b hbd
  have HBd := hid (HB.out.fr hbd)
  have hltb := HT.out.lt
  have HRM := hid (refmul_any (.slice p3 W c3) (.slice p4 W c4) ax ay W _ _ w5.drew (fun q hq => hq.size) (fun q hq => hq.size) (HIA.out.fr hfd) (HIB.out.fr hfd) HAL.out HBL.out hW64)
  have HW5 := hid ((HK.out.fr hfd).w (.slice p5 W c5, zs5, ofB W (valB ax * valB ay)) (by simp))
  clear hbd hfd
  have hFa : ∀ f, Fence.wide.fn f := fun _ => trivial
  refine (wpIn_wide (n := 9)).1 ?_
  refine wpIn_onlyN ?_
  refine wpIn_region_HJ (BoxS w3.heap.size (.pointer (some ⟨bb, 0, none⟩)) (.slice pi (2 * W) ci) (.slice pw (2 * W) cw)) 13 (by kernel_rfl) ?_
  simp only [List.size_toArray, List.length_cons, List.length_nil, Nat.reduceAdd]
  refine wpHJ_pure (v := ?va0) 0 hFa rfl (by kernel_rfl) (fun _ _ _ h => h.elim) (Or.inl ⟨by rfl, ?ya0⟩) (.inr hSd) ?ra0
  case ya0 => (intro w' _; go_simp; try rfl)
  simp only [Act.put, List.getElem_toArray, List.getElem_cons_succ, List.getElem_cons_zero, List.setIfInBounds_toArray, List.set_cons_zero, List.set_cons_succ]
  refine wpHJ_pure (v := ?va1) 1 hFa rfl (by kernel_rfl) (fun _ _ _ h => h.elim) (Or.inl ⟨by rfl, ?ya1⟩) (.inr hSd) ?ra1
  case ya1 => (intro w' _; go_simp; try rfl)
  simp only [Act.put, List.getElem_toArray, List.getElem_cons_succ, List.getElem_cons_zero, List.setIfInBounds_toArray, List.set_cons_zero, List.set_cons_succ]
  refine wpHJ_pure (v := ?va2) 2 hFa rfl (by kernel_rfl) (fun _ _ _ h => h.elim) (Or.inl ⟨by rfl, ?ya2⟩) (.inr hSd) ?ra2
  case ya2 => (intro w' _; go_simp; try rfl)
  simp only [Act.put, List.getElem_toArray, List.getElem_cons_succ, List.getElem_cons_zero, List.setIfInBounds_toArray, List.set_cons_zero, List.set_cons_succ]
  refine wpHJ_take (v := ?va3) 3 hFa rfl (by kernel_rfl) (fun _ _ _ h => h.elim) (Or.inl ⟨by simp [Region.wanted, yielded], ?ya3⟩) hSd ?ra3
  case ya3 => (intro w' hS'; obtain ⟨s1, s2, s3⟩ := hS'; go_simp; try rfl)
  simp only [Act.put, List.getElem_toArray, List.getElem_cons_succ, List.getElem_cons_zero, List.setIfInBounds_toArray, List.set_cons_zero, List.set_cons_succ]
  refine wpHJ_pure (v := ?va4) 4 hFa rfl (by kernel_rfl) (fun _ _ _ h => h.elim) (Or.inl ⟨by simp [Region.wanted, yielded], ?ya4⟩) (.inr hSd) ?ra4
  case ya4 => (intro w' _; go_simp; try rfl)
  simp only [Act.put, List.getElem_toArray, List.getElem_cons_succ, List.getElem_cons_zero, List.setIfInBounds_toArray, List.set_cons_zero, List.set_cons_succ]
  refine wpHJ_pure (v := ?va5) 5 hFa rfl (by kernel_rfl) (fun _ _ _ h => h.elim) (Or.inl ⟨by simp [Region.wanted, yielded], ?ya5⟩) (.inr hSd) ?ra5
  case ya5 => (intro w' _; go_simp; try rfl)
  simp only [Act.put, List.getElem_toArray, List.getElem_cons_succ, List.getElem_cons_zero, List.setIfInBounds_toArray, List.set_cons_zero, List.set_cons_succ]
  refine wpHJ_pure (v := ?va6) 6 hFa rfl (by kernel_rfl) (fun _ _ _ h => h.elim) (Or.inl ⟨by simp [Region.wanted, yielded], ?ya6⟩) (.inr hSd) ?ra6
  case ya6 => (intro w' _; go_simp; try rfl)
  simp only [Act.put, List.getElem_toArray, List.getElem_cons_succ, List.getElem_cons_zero, List.setIfInBounds_toArray, List.set_cons_zero, List.set_cons_succ]
  refine wpHJ_only 7 (by kernel_rfl) rfl ?_
  intro K hK
  rw [if_pos (by simp [Region.wanted, yielded])]
  go_simp
  (with_reducible refine (callsIn_wide.2 HRM.out).mono ?_)
  rintro e w6 ⟨v6, rfl, hv6, hb6⟩
  obtain ⟨p6, c6, rfl, _, _, _⟩ := hv6.opn' (ofB_len _ _)
  have hS6 := hSd.below hb6 hltb
  have hC6 := HBd.out.st.c.below hb6
  have hf6 := FrB.of_below HBd.out.st.c.b hb6
  have HDE := hid (decided_any bb (2 * W) σ5 F5 _ _ (.slice p5 W c5) (.slice p6 W c6) zs5 (Away bb w6) (New w5.drew w6) w6 hC6 (HW5.out.1.fr hf6) (by have e2 : zs5.map (litT σ5) = ofB W (valB ax * valB ay) := HW5.out.2.2; rw [e2]; exact hv6) HW5.out.2.1 (fun q hq => hq.size) (fun q hq => hq.2) (by have e3 := HW5.out.2.len; simp only [ofB_len] at e3; omega))
  have HB6 := hid hb6
  clear hv6 hb6 hC6 hf6 HRM hSd
  refine hK _ _ (.inr (.inr hS6)) ?_
  clear hK K
  refine wpHJ_only 8 (by kernel_rfl) rfl ?_
  intro K hK
  rw [if_pos (by simp [Region.wanted, yielded])]
  go_simp
  (with_reducible refine (callsIn_wide.2 HDE.out).mono ?_)
  rintro e w7 ⟨rfl, hb7⟩
  have hb67 := below_tr' HB6.out hb7 (Nat.le_refl _)
  have hS7 := hS6.below hb7 (Nat.lt_of_lt_of_le hltb HB6.out.size)
  have HB7 := hid hb67
  clear hb7 hb67 HDE HB6 hS6
  refine hK _ _ (.inr (.inr hS7)) ?_
  clear hK K
  refine wpHJ_pure (v := ?va9) 9 hFa rfl (by kernel_rfl) (fun _ _ _ h => h.elim) (Or.inl ⟨by rfl, ?ya9⟩) (.inr hS7) ?ra9
  case ya9 => (intro w' _; go_simp; try rfl)
  simp only [Act.put, List.getElem_toArray, List.getElem_cons_succ, List.getElem_cons_zero, List.setIfInBounds_toArray, List.set_cons_zero, List.set_cons_succ]
  refine wpHJ_pure (v := ?va10) 10 hFa rfl (by kernel_rfl) (fun _ _ _ h => h.elim) (Or.inl ⟨by rfl, ?ya10⟩) (.inr hS7) ?ra10
  case ya10 => (intro w' _; go_simp; try rfl)
  simp only [Act.put, List.getElem_toArray, List.getElem_cons_succ, List.getElem_cons_zero, List.setIfInBounds_toArray, List.set_cons_zero, List.set_cons_succ]
  refine wpHJ_only 11 (by kernel_rfl) rfl ?_
  intro K hK
  rw [if_pos (by simp [Region.wanted, yielded])]
  go_simp
  (with_reducible refine (callsIn_wide.2 (awake17_any _)).mono ?_)
  rintro e w8 ⟨rfl, hb8⟩
  have hS8 := hS7.below hb8 (Nat.lt_of_lt_of_le hltb HB7.out.size)
  have HB8 := hid (below_tr' HB7.out hb8 (Nat.le_refl _))
  clear hb8 HB7 hS7
  refine hK _ _ (.inr (.inr hS8)) ?_
  clear hK K
  refine wpHJ_pure (v := ?va12) 12 hFa rfl (by kernel_rfl) (fun _ _ _ h => h.elim) (Or.inl ⟨by rfl, ?ya12⟩) (.inr hS8) ?ra12
  case ya12 => (intro w' _; go_simp; try rfl)
  simp only [Act.put, List.getElem_toArray, List.getElem_cons_succ, List.getElem_cons_zero, List.setIfInBounds_toArray, List.set_cons_zero, List.set_cons_succ]
  refine wpHJ_only 13 (by kernel_rfl) rfl ?_
  intro K hK
  go_simp
  refine hK _ _ (.inl rfl) ?_
  clear hK K
  refine wpHJ_done (by kernel_rfl) ?_ _
  simp only [onlyN, Exit.then]
  clear hFa
  have HFR := hid (below_tr' (below_tr' HBC.out HBd.out.st.fr (Nat.le_refl _)) HB8.out (Nat.le_refl _))
  clear HBd HB8 hS8
  go_wp2
  go_ret
  exact ⟨rfl, HFR.out⟩
end Go.Proofs.Ytngimdbjcelkeaa
