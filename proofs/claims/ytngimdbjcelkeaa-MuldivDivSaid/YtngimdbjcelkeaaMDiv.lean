/-
  The walk of MuldivDiv.
-/
import Derived.Test.YtngimdbjcelkeaaMRef2
namespace Go.Proofs.Ytngimdbjcelkeaa
set_option linter.unusedSimpArgs false
set_option linter.unusedVariables false
open Go.RowKit Go.Shelf
attribute [local go_sem] Oper.semAt_some

set_option maxRecDepth 100000 in
set_option maxHeartbeats 6400000 in
theorem mdiv_walk (z : Int) (vals : List Bool) (lx ly : List Int) (vv vx vy : Value) (w : World) (hz : -9223372036854775808 ≤ z ∧ z ≤ 9223372036854775807)
    (hv : Bools (· < w.heap.size) w vv vals) (hx : Ints (· < w.heap.size) w vx lx) (hy : Ints (· < w.heap.size) w vy ly)
    (hlx : ∀ x ∈ lx, -9223372036854775808 ≤ x ∧ x ≤ 9223372036854775807) (hly : ∀ x ∈ ly, -9223372036854775808 ≤ x ∧ x ≤ 9223372036854775807) :
    Calls Try.prog 11 #[.agg #[.int .i64 z, vv, vx, vy]] w fun e w' => e = .returned (.bool true) ∧ Below w.heap.size w w' := by
  have hmk := fun (wc : World) (hbc : Below w.heap.size w wc) => make_mk (z % 18) vals lx ly vv vx vy wc (by omega) (hv.keep fun k hk => ⟨Nat.lt_of_lt_of_le hk hbc.size, hbc.block k hk⟩) (hx.keep fun k hk => ⟨Nat.lt_of_lt_of_le hk hbc.size, hbc.block k hk⟩) (hy.keep fun k hk => ⟨Nat.lt_of_lt_of_le hk hbc.size, hbc.block k hk⟩) hlx hly (((z % 18) % 64).toNat + 1) rfl
  have hW1 : 1 ≤ ((z % 18) % 64).toNat + 1 := by omega
  have hW18 : ((z % 18) % 64).toNat + 1 ≤ 18 := by omega
  generalize ((z % 18) % 64).toNat + 1 = W at *
  obtain ⟨pv, cv, rfl, _, _, _, _⟩ := hv.op
  obtain ⟨px, cx, rfl, _, _, _, _⟩ := hx.op
  obtain ⟨py, cy, rfl, _, _, _, _⟩ := hy.op
  have hW64 : W ≤ 64 := by omega
  have HMK := hid hmk
  have HCUT := hid (fun w' => cut_any z pv px py vals.length cv lx.length cx ly.length cy w' hz)
  have hb0 : Below w.heap.size w (w.alloc (.cells #[.int .i64 z, .slice pv vals.length cv, .slice px lx.length cx, .slice py ly.length cy] 25)) := (Below.refl _ _).alloc (Nat.le_refl _) _
  have HB0 := hid hb0
  clear hmk hv hx hy hlx hly hb0
  go_enter Try.func11, Try.ntmps11
  go_wp2_with fail
  (with_reducible refine (HCUT.out _).mono ?_)
  rintro e wc ⟨rfl, hbc⟩
  have hbc := below_tr' HB0.out hbc (by simp)
  have HMC := hid (HMK.out wc hbc)
  have HBC := hid hbc
  clear hbc HMK HCUT HB0
  go_wp2_with fail
  (with_reducible refine HMC.out.mono ?_)
  rintro e w3 ⟨bb, σ0, vin, vval, v1, v2, va, vb, xs, ys, rfl, hC, hxl, hyl, hxo, hyo, ix, iy, ia, ib, hbe, hbb, hlo⟩
  obtain ⟨pi, ci, rfl, _, _, _⟩ := hC.inp.opn (insM_len _)
  obtain ⟨pw, cw, rfl, _, _, _⟩ := hC.val.opn (valsM_len _ _)
  obtain ⟨p1, c1, rfl, _, _, _⟩ := ix.opn hxl
  obtain ⟨p2, c2, rfl, _, _, _⟩ := iy.opn hyl
  obtain ⟨p3, c3, rfl, _, _, _⟩ := ia.opn (n := W) (by rw [List.length_map]; exact hxl)
  obtain ⟨p4, c4, rfl, _, _, _⟩ := ib.opn (n := W) (by rw [List.length_map]; exact hyl)
  have HB3 := hid (show Bas wc bb (2 * W) _ _ (2 * W + 1) 1 w3 σ0 ⟨2 * W + 1, [[1]]⟩ from ⟨St.mk hC hbe hlo, Nat.le_refl _, Nat.le_refl _⟩)
  have HAL := hid (show (xs.map (litT σ0)).length = W by rw [List.length_map, hxl])
  have HBL := hid (show (ys.map (litT σ0)).length = W by rw [List.length_map, hyl])
  have HK3 := hid (((Kit.nil (bb := bb)).word iy (show LitsAre σ0 ⟨2 * W + 1, [[1]]⟩ ys _ from ⟨hyo, rfl⟩)).word ix (show LitsAre σ0 ⟨2 * W + 1, [[1]]⟩ xs _ from ⟨hxo, rfl⟩))
  have HIA3 := hid ia
  have HIB3 := hid ib
  clear hC hbe hlo hxl hyl hxo hyo ix iy ia ib hbb
  generalize xs.map (litT σ0) = ax at *
  generalize ys.map (litT σ0) = ay at *
  go_wp2_with fail
  obtain ⟨hB4, hT4, hsz4, hf4⟩ := HB3.out.box _ rfl
  generalize hw4 : World.alloc w3 _ = w4 at *
  clear hw4
  have HB := hid hB4; have HT := hid hT4; have HK := hid (HK3.out.fr hf4); have HIA := hid (HIA3.out.fr hf4); have HIB := hid (HIB3.out.fr hf4)
  have hS4 := hT4.boxS
  have hq1 : W * W ≤ 324 := by
    have := Nat.mul_le_mul hW18 hW18
    omega
  have hq2 : 3 * W * (W - 1) ≤ 918 := by
    have := Nat.mul_le_mul (show 3 * W ≤ 54 by omega) (show W - 1 ≤ 17 by omega)
    omega
  have hq3 : 18 * W * (W - 1) ≤ 5508 := by
    have := Nat.mul_le_mul (show 18 * W ≤ 324 by omega) (show W - 1 ≤ 17 by omega)
    omega
  have hq4 : W * (6 * W + 1) ≤ 1962 := by
    have := Nat.mul_le_mul hW18 (show 6 * W + 1 ≤ 109 by omega)
    omega
  have hq5 : W * (36 * W + 6) ≤ 11772 := by
    have := Nat.mul_le_mul hW18 (show 36 * W + 6 ≤ 654 by omega)
    omega
  have HQ := hid (And.intro hq1 (And.intro hq2 (And.intro hq3 (And.intro hq4 hq5))))
  clear hB4 hT4 hsz4 hf4 HB3 HK3 HIA3 HIB3 HMC hq1 hq2 hq3 hq4 hq5
  have hS := hS4
  clear hS4
  obtain ⟨hq1, hq2, hq3, hq4, hq5⟩ := HQ.out
  have HC := hid (div_c HB.out (m := W) hW1 hW64 (HK.out.w (.slice p1 W c1, xs, ax) (by simp)).1 (HK.out.w (.slice p2 W c2, ys, ay) (by simp)).1 (HK.out.w (.slice p1 W c1, xs, ax) (by simp)).2 (HK.out.w (.slice p2 W c2, ys, ay) (by simp)).2 HAL.out HBL.out (by omega) (by omega))
  obtain ⟨b0, b1, b2⟩ := hS
  go_wp2_with fail
  (with_reducible refine HC.out.mono ?_)
  rintro e w5 ⟨v5, zs5, u5, us5, σ5, F5, rfl, hB, hi, hl, hi2, hl2, hf, hx⟩
  have hz : zs5.length = W := by rw [hl.len]; exact ofB_len _ _
  have hz2 : us5.length = W := by rw [hl2.len]; exact ofB_len _ _
  obtain ⟨p5, c5, rfl, _, _, _⟩ := hi.opn hz
  obtain ⟨q5, d5, rfl, _, _, _⟩ := hi2.opn hz2
  have hT := HT.out.fr hf
  have hK := ((HK.out.step hf hx).word hi hl).word hi2 hl2
  have hS5 := hT.boxS
  have HIA5 := hid (HIA.out.fr hf); have HIB5 := hid (HIB.out.fr hf)
  clear HB HT HK HC HIA HIB b0 b1 b2
  have HB := hid hB; have HT := hid hT; have HK := hid hK; have HIA := HIA5; have HIB := HIB5; have hS := hS5
  clear hB hT hK hi hl hf hx hz hi2 hl2 hz2 HIA5 HIB5 hS5
  clear hq1 hq2 hq3 hq4 hq5 HQ
  have HRD := hid (refdiv_any (.slice p3 W c3) (.slice p4 W c4) ax ay W (Away bb w5) (Away bb w5) w5 (fun q hq => hq.size) (fun q hq => hq.size) HIA.out HIB.out HAL.out HBL.out hW64)
  have hltb := HT.out.lt
  go_wp2_with fail
  (with_reducible refine HRD.out.mono ?_)
  rintro e w6 ⟨v1, v2, rfl, ho1, hbo, hb6⟩
  obtain ⟨ps, cs, rfl⟩ := own_slice ho1
  obtain ⟨pt, ct, rfl, _, _, hrt⟩ := hbo.opn' (ofB_len _ _)
  have hSd : (BoxS w3.heap.size (.pointer (some ⟨bb, 0, none⟩)) (.slice pi (2 * W) ci) (.slice pw (2 * W) cw)) w6.drew := (hS.below hb6 hltb).drew
  have HO1 := hid ho1; have HRT := hid hrt; have HB6 := hid hb6
  have HWQ := hid (HK.out.w (.slice p5 W c5, zs5, (ofB W (divQ W (valB ax) (valB ay)))) (by simp)); have HWR := hid (HK.out.w (.slice q5 W d5, us5, (ofB W (valB ax % valB ay))) (by simp))
  have hz5 : zs5.length = W := by have e3 := HWQ.out.2.len; simp only [ofB_len] at e3; exact e3
  have hz6 : us5.length = W := by have e3 := HWR.out.2.len; simp only [ofB_len] at e3; exact e3
  have HZ5 := hid hz5; have HZ6 := hid hz6
  have hws := hb6.size
  clear hS ho1 hbo hrt hb6 HRD hz5 hz6
  go_wp2_with fail
  have hFa : ∀ f, Fence.wide.fn f := fun _ => trivial
  refine (wpIn_wide (n := 9)).1 ?_
  refine wpIn_onlyN ?_
  refine wpIn_region_HJ (BoxS w3.heap.size (.pointer (some ⟨bb, 0, none⟩)) (.slice pi (2 * W) ci) (.slice pw (2 * W) cw)) 16 (by kernel_rfl) ?_
  simp only [List.size_toArray, List.length_cons, List.length_nil, Nat.reduceAdd]
  refine wpHJ_pure (v := ?va0) 0 hFa rfl (by kernel_rfl) (fun _ _ _ h => h.elim) (Or.inl ⟨by rfl, ?ya0⟩) (.inr hSd) ?ra0
  case ya0 => (intro w' _; go_simp; try rfl)
  simp only [Act.put, List.getElem_toArray, List.getElem_cons_succ, List.getElem_cons_zero, List.setIfInBounds_toArray, List.set_cons_zero, List.set_cons_succ]
  refine wpHJ_pure (v := ?va1) 1 hFa rfl (by kernel_rfl) (fun _ _ _ h => h.elim) (Or.inl ⟨by rfl, ?ya1⟩) (.inr hSd) ?ra1
  case ya1 => (intro w' _; go_simp; try rfl)
  simp only [Act.put, List.getElem_toArray, List.getElem_cons_succ, List.getElem_cons_zero, List.setIfInBounds_toArray, List.set_cons_zero, List.set_cons_succ]
  refine wpHJ_pure (v := ?va2) 2 hFa rfl (by kernel_rfl) (fun _ _ _ h => h.elim) (Or.inl ⟨by rfl, ?ya2⟩) (.inr hSd) ?ra2
  case ya2 => (intro w' _; go_simp; try rfl)
  simp only [Act.put, List.getElem_toArray, List.getElem_cons_succ, List.getElem_cons_zero, List.setIfInBounds_toArray, List.set_cons_zero, List.set_cons_succ]
  refine wpHJ_take (v := ?va3) 3 hFa rfl (by kernel_rfl) (fun _ _ _ h => h.elim) (Or.inl ⟨by simp [Region.wanted, yielded], ?ya3⟩) hSd ?ra3
  case ya3 => (intro w' hS'; obtain ⟨s1, s2, s3⟩ := hS'; go_simp; try rfl)
  simp only [Act.put, List.getElem_toArray, List.getElem_cons_succ, List.getElem_cons_zero, List.setIfInBounds_toArray, List.set_cons_zero, List.set_cons_succ]
  refine wpHJ_pure (v := ?va4) 4 hFa rfl (by kernel_rfl) (fun _ _ _ h => h.elim) (Or.inl ⟨by simp [Region.wanted, yielded], ?ya4⟩) (.inr hSd) ?ra4
  case ya4 => (intro w' _; go_simp; try rfl)
  simp only [Act.put, List.getElem_toArray, List.getElem_cons_succ, List.getElem_cons_zero, List.setIfInBounds_toArray, List.set_cons_zero, List.set_cons_succ]
  refine wpHJ_pure (v := ?va6) 6 hFa rfl (by kernel_rfl) (fun _ _ _ h => h.elim) (Or.inl ⟨by simp [Region.wanted, yielded], ?ya6⟩) (.inr hSd) ?ra6
  case ya6 => (intro w' _; go_simp; try rfl)
  simp only [Act.put, List.getElem_toArray, List.getElem_cons_succ, List.getElem_cons_zero, List.setIfInBounds_toArray, List.set_cons_zero, List.set_cons_succ]
  refine wpHJ_pure (v := ?va8) 8 hFa rfl (by kernel_rfl) (fun _ _ _ h => h.elim) (Or.inl ⟨by simp [Region.wanted, yielded], ?ya8⟩) (.inr hSd) ?ra8
  case ya8 => (intro w' _; go_simp; try rfl)
  simp only [Act.put, List.getElem_toArray, List.getElem_cons_succ, List.getElem_cons_zero, List.setIfInBounds_toArray, List.set_cons_zero, List.set_cons_succ]
  refine wpHJ_pure (v := ?va9) 9 hFa rfl (by kernel_rfl) (fun _ _ _ h => h.elim) (Or.inl ⟨by simp [Region.wanted, yielded], ?ya9⟩) (.inr hSd) ?ra9
  case ya9 => (intro w' _; go_simp; try rfl)
  simp only [Act.put, List.getElem_toArray, List.getElem_cons_succ, List.getElem_cons_zero, List.setIfInBounds_toArray, List.set_cons_zero, List.set_cons_succ]
  refine wpHJ_only 5 (by kernel_rfl) rfl ?_
  intro K hK
  rw [if_pos (by simp [Region.wanted, yielded])]
  refine wpIn_app hFa (.const (.slice none 0 0)) (.tmp 45) 23 rfl w6.heap.size 3 (.int .i64 0) 8 Try.underlying23 info_int rfl _ 0 _ rfl (World.ownsRow_nil _ _ _ _) p5 W c5 (zs5.map (Value.int .i64)) rfl (by rw [List.length_map, HZ5.out]) (HWQ.out.1.row.keep (R' := fun _ => True) (w' := w6.drew) fun k hk => ⟨trivial, HB6.out.block k hk.size⟩) (ints_one _) (by omega) (by unfold maxLen; omega) (Nat.le_refl _) ?_
  intro v7 w7 ho7 hg7 _
  simp only [Nat.zero_add, List.nil_append] at ho7
  simp only [Act.put, List.getElem_toArray, List.getElem_cons_succ, List.getElem_cons_zero, List.setIfInBounds_toArray, List.set_cons_zero, List.set_cons_succ]
  obtain ⟨p7, c7, rfl⟩ := own_slice ho7
  have hb7 : Below w6.heap.size w6 w7 := (Below.refl _ _).drew.grown hg7 (Nat.le_refl _) (fun k hk => by cases hk)
  have hb57 := below_tr' HB6.out hb7 (Nat.le_refl _)
  have hS7 := BoxS.below hSd ((⟨hb7.os, hb7.tape, hb7.output, hb7.size, hb7.block⟩ : Below w6.drew.heap.size w6.drew w7)) (Nat.lt_of_lt_of_le hltb hws)
  have HO7 := hid ho7; have HB7 := hid hb7; have HB57 := hid hb57
  clear ho7 hg7 hb7 hb57 hSd
  refine hK _ _ (.inr (.inr hS7)) ?_
  clear hK K
  refine wpHJ_only 7 (by kernel_rfl) rfl ?_
  intro K hK
  rw [if_pos (by simp [Region.wanted, yielded])]
  refine wpIn_app hFa (.tmp 46) (.tmp 47) 23 rfl w6.heap.size 3 (.int .i64 0) 8 Try.underlying23 info_int rfl _ W _ rfl HO7.out q5 W d5 (us5.map (Value.int .i64)) rfl (by rw [List.length_map, HZ6.out]) (HWR.out.1.row.keep (R' := fun _ => True) (w' := w7) fun k hk => ⟨trivial, HB57.out.block k hk.size⟩) (ints_one _) (by omega) (by unfold maxLen; omega) HB7.out.size ?_
  intro v8 w8 ho8 hg8 _
  simp only [Act.put, List.getElem_toArray, List.getElem_cons_succ, List.getElem_cons_zero, List.setIfInBounds_toArray, List.set_cons_zero, List.set_cons_succ]
  obtain ⟨p8, c8, rfl⟩ := own_slice ho8
  have hb8 : Below w6.heap.size w6 w8 := HB7.out.grown hg8 HB7.out.size (fun k hk => (HO7.out.lt k hk).1)
  have hb58 := below_tr' HB6.out hb8 (Nat.le_refl _)
  have hl78 : w3.heap.size < w7.heap.size := Nat.lt_of_lt_of_le hltb HB57.out.size
  have hS8 : (BoxS w3.heap.size (.pointer (some ⟨bb, 0, none⟩)) (.slice pi (2 * W) ci) (.slice pw (2 * W) cw)) w8 := by
    have hb := HB57.out
    have h1 := (HT.out.fr (FrB.of_below HB.out.st.c.b hb58)).boxS
    exact h1
  have HO8 := hid ho8; have HB8 := hid hb8; have HB58 := hid hb58
  clear ho8 hg8 hb8 hb58 hS7 HO7 HB7 HB57 hl78
  refine hK _ _ (.inr (.inr hS8)) ?_
  clear hK K
  refine wpHJ_only 10 (by kernel_rfl) rfl ?_
  intro K hK
  rw [if_pos (by simp [Region.wanted, yielded])]
  refine wpIn_app hFa (.tmp 49) (.tmp 50) 22 rfl w5.heap.size 4 (.bool false) 1 Try.underlying22 info_bool rfl _ W _ rfl (owns_keep HO1.out fun j hj => HB8.out.block j (HO1.out.lt j hj).2) pt W ct _ rfl (by rw [List.length_map, ofB_len]) (HRT.out.keep (R' := fun _ => True) (w' := w8) fun k hk => ⟨trivial, HB8.out.block k hk.2⟩) (bools_one _) (by omega) (by unfold maxLen; omega) HB58.out.size ?_
  intro v9 w9 ho9 hg9 _
  simp only [Act.put, List.getElem_toArray, List.getElem_cons_succ, List.getElem_cons_zero, List.setIfInBounds_toArray, List.set_cons_zero, List.set_cons_succ]
  obtain ⟨p9, c9, rfl⟩ := own_slice ho9
  have hb9 : Below w5.heap.size w5 w9 := HB58.out.grown hg9 HB58.out.size (fun k hk => (HO1.out.lt k hk).1)
  have hS9 : (BoxS w3.heap.size (.pointer (some ⟨bb, 0, none⟩)) (.slice pi (2 * W) ci) (.slice pw (2 * W) cw)) w9 := (HT.out.fr (FrB.of_below HB.out.st.c.b hb9)).boxS
  have hlo : ∀ j, (Value.slice p8 (W + W) c8).ownBlock = some j → w9.heap[j]? = w8.heap[j]? := fun j hj => hg9.block j (HO8.out.lt j hj).2 (fun e => by
    have h1 := (HO8.out.lt j hj).1
    have h2 := (HO1.out.lt j e.symm).2
    omega)
  have hi8 : Ints (New w5 w9) w9 (.slice p8 (W + W) c8) (zs5 ++ us5) := by
    have h1 := owns_keep HO8.out hlo
    rw [← List.map_append] at h1
    exact Sl.of_owns h1 (by omega) (fun k hk => ⟨by have := (h1.lt k hk).1; omega, (h1.lt k hk).2⟩)
  have hi9 : Bools (New w5 w9) w9 (.slice p9 (W + W) c9) ((ofB W (divQ W (valB ax) (valB ay))) ++ (ofB W (valB ax % valB ay))) := by
    have h1 := ho9
    rw [← List.map_append] at h1
    exact bnew h1 (by omega) (Nat.le_refl _)
  have hC9 := HB.out.st.c.below hb9
  have hmap : (zs5 ++ us5).map (litT σ5) = (ofB W (divQ W (valB ax) (valB ay))) ++ (ofB W (valB ax % valB ay)) := by
    have e1 : zs5.map (litT σ5) = (ofB W (divQ W (valB ax) (valB ay))) := HWQ.out.2.2
    have e2 : us5.map (litT σ5) = (ofB W (valB ax % valB ay)) := HWR.out.2.2
    rw [List.map_append, e1, e2]
  have HDE := hid (decided_any bb (2 * W) σ5 F5 _ _ (.slice p8 (W + W) c8) (.slice p9 (W + W) c9) (zs5 ++ us5) (New w5 w9) (New w5 w9) w9 hC9 hi8 (by rw [hmap]; exact hi9) (fun x hx => (List.mem_append.1 hx).elim (HWQ.out.2.1 x) (HWR.out.2.1 x)) (fun q hq => hq.2) (fun q hq => hq.2) (by rw [List.length_append, HZ5.out, HZ6.out]; omega))
  have HB9 := hid hb9
  clear ho9 hg9 hb9 hlo hi8 hi9 hC9 hmap hS8 HO8 HB8 HB58 HO1 HRT
  refine hK _ _ (.inr (.inr hS9)) ?_
  clear hK K
  refine wpHJ_only 11 (by kernel_rfl) rfl ?_
  intro K hK
  rw [if_pos (by simp [Region.wanted, yielded])]
  go_simp
  (with_reducible refine (callsIn_wide.2 HDE.out).mono ?_)
  rintro e wa ⟨rfl, hba⟩
  have hb5a := below_tr' HB9.out hba (Nat.le_refl _)
  have hSa := hS9.below hba (Nat.lt_of_lt_of_le hltb HB9.out.size)
  have HBA := hid hb5a
  clear hba hb5a HDE HB9 hS9
  refine hK _ _ (.inr (.inr hSa)) ?_
  clear hK K
  refine wpHJ_pure (v := ?va12) 12 hFa rfl (by kernel_rfl) (fun _ _ _ h => h.elim) (Or.inl ⟨by rfl, ?ya12⟩) (.inr hSa) ?ra12
  case ya12 => (intro w' _; go_simp; try rfl)
  simp only [Act.put, List.getElem_toArray, List.getElem_cons_succ, List.getElem_cons_zero, List.setIfInBounds_toArray, List.set_cons_zero, List.set_cons_succ]
  refine wpHJ_pure (v := ?va13) 13 hFa rfl (by kernel_rfl) (fun _ _ _ h => h.elim) (Or.inl ⟨by rfl, ?ya13⟩) (.inr hSa) ?ra13
  case ya13 => (intro w' _; go_simp; try rfl)
  simp only [Act.put, List.getElem_toArray, List.getElem_cons_succ, List.getElem_cons_zero, List.setIfInBounds_toArray, List.set_cons_zero, List.set_cons_succ]
  refine wpHJ_only 14 (by kernel_rfl) rfl ?_
  intro K hK
  rw [if_pos (by simp [Region.wanted, yielded])]
  go_simp
  (with_reducible refine (callsIn_wide.2 (awake17_any _)).mono ?_)
  rintro e wb ⟨rfl, hbb⟩
  have hSb := hSa.below hbb (Nat.lt_of_lt_of_le hltb HBA.out.size)
  have HBB := hid (below_tr' HBA.out hbb (Nat.le_refl _))
  clear hbb HBA hSa
  refine hK _ _ (.inr (.inr hSb)) ?_
  clear hK K
  refine wpHJ_pure (v := ?va15) 15 hFa rfl (by kernel_rfl) (fun _ _ _ h => h.elim) (Or.inl ⟨by rfl, ?ya15⟩) (.inr hSb) ?ra15
  case ya15 => (intro w' _; go_simp; try rfl)
  simp only [Act.put, List.getElem_toArray, List.getElem_cons_succ, List.getElem_cons_zero, List.setIfInBounds_toArray, List.set_cons_zero, List.set_cons_succ]
  refine wpHJ_only 16 (by kernel_rfl) rfl ?_
  intro K hK
  go_simp
  refine hK _ _ (.inl rfl) ?_
  clear hK K
  refine wpHJ_done (by kernel_rfl) ?_ _
  simp only [onlyN, Exit.then]
  clear hFa
  have HFR := hid (below_tr' (below_tr' HBC.out HB.out.st.fr (Nat.le_refl _)) HBB.out (Nat.le_refl _))
  clear HB HBB hSb HT HK
  go_wp2
  go_ret
  exact ⟨rfl, HFR.out⟩
end Go.Proofs.Ytngimdbjcelkeaa
