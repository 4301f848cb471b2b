/-
  The walk of AdderCompares.
-/
import Derived.Test.YtngimdbjcelkeaaRun
import Derived.Test.YtngimdbjcelkeaaRef2
namespace Go.Proofs.Ytngimdbjcelkeaa
set_option linter.unusedSimpArgs false
set_option linter.unusedVariables false
open Go.RowKit Go.Shelf
attribute [local go_sem] Oper.semAt_some

set_option maxRecDepth 100000 in
set_option maxHeartbeats 6400000 in
theorem compares_walk (z cr : Int) (vals : List Bool) (lx ly : List Int) (vv vx vy : Value) (w : World) (hz : -9223372036854775808 ≤ z ∧ z ≤ 9223372036854775807) (hcr : -9223372036854775808 ≤ cr ∧ cr ≤ 9223372036854775807)
    (hv : Bools (· < w.heap.size) w vv vals) (hx : Ints (· < w.heap.size) w vx lx) (hy : Ints (· < w.heap.size) w vy ly)
    (hlx : ∀ x ∈ lx, -9223372036854775808 ≤ x ∧ x ≤ 9223372036854775807) (hly : ∀ x ∈ ly, -9223372036854775808 ≤ x ∧ x ≤ 9223372036854775807) :
    Calls Try.prog 6 #[.agg #[.int .i64 z, vv, vx, vy], .int .i64 cr] w fun e w' => e = .returned (.bool true) ∧ Below w.heap.size w w' := by
  have hb0 : Below w.heap.size w (w.alloc (.cells #[.int .i64 z, vv, vx, vy] 25)) := (Below.refl _ _).alloc (Nat.le_refl _) _
  have hk0 : ∀ k, k < w.heap.size → k < (w.alloc (.cells #[.int .i64 z, vv, vx, vy] 25)).heap.size ∧ (w.alloc (.cells #[.int .i64 z, vv, vx, vy] 25)).heap[k]? = w.heap[k]? := fun k hk => ⟨by simp only [World.size_alloc]; omega, hb0.block k hk⟩
  have hmk := make_mk z vals lx ly vv vx vy (w.alloc (.cells #[.int .i64 z, vv, vx, vy] 25)) hz (hv.keep hk0) (hx.keep hk0) (hy.keep hk0) hlx hly ((z % 64).toNat + 1) rfl
  have hW1 : 1 ≤ (z % 64).toNat + 1 := by omega
  have hW64 : (z % 64).toNat + 1 ≤ 64 := by omega
  generalize (z % 64).toNat + 1 = W at *
  obtain ⟨pv, cv, rfl, _, _, _, _⟩ := hv.op
  obtain ⟨px, cx, rfl, _, _, _, _⟩ := hx.op
  obtain ⟨py, cy, rfl, _, _, _, _⟩ := hy.op
  have HMK := hid hmk; have HB0 := hid hb0
  clear hmk hb0 hk0 hv hx hy hlx hly
  go_enter Try.func6, Try.ntmps6
  go_wp2_with (go_at_call 23; refine HMK.out.mono ?_; rintro e w3 ⟨bb, σ0, vin, vval, v1, v2, va, vb, xs, ys, rfl, hC, hxl, hyl, hxo, hyo, ix, iy, ia, ib, hbe, hbb, hlo⟩; obtain ⟨pi, ci, rfl, _, _, _⟩ := hC.inp.opn (insM_len _); obtain ⟨pw, cw, rfl, _, _, _⟩ := hC.val.opn (valsM_len _ _); obtain ⟨p1, c1, rfl, _, _, _⟩ := ix.opn hxl; obtain ⟨p2, c2, rfl, _, _, _⟩ := iy.opn hyl; obtain ⟨p3, c3, rfl, _, _, _⟩ := ia.opn (n := W) (by rw [List.length_map]; exact hxl); obtain ⟨p4, c4, rfl, _, _, _⟩ := ib.opn (n := W) (by rw [List.length_map]; exact hyl); have HR := hid (Run.mk (V := 2 * W + 1) (K := 1) (St.mk hC hbe hlo) hxl hyl hxo hyo rfl rfl ix iy ia ib (Nat.le_refl _) (Nat.le_refl _)); have HAL := hid (show (xs.map (litT σ0)).length = W by rw [List.length_map, hxl]); have HBL := hid (show (ys.map (litT σ0)).length = W by rw [List.length_map, hyl]); clear hC hbe hlo hxl hyl hxo hyo ix iy ia ib hbb; generalize xs.map (litT σ0) = ax at *; generalize ys.map (litT σ0) = ay at *)
  -- the box; Pick
  obtain ⟨hR4, hT4, hsz4, hf4⟩ := HR.out.box _ rfl
  generalize hw4 : World.alloc w3 _ = w4 at *
  clear hw4
  have hpk := pick_any bb _ σ0 _ _ _ cr w4 hR4.st.c hcr
  have HR4 := hid hR4; have HT4 := hid hT4; have HPK := hid hpk; have HSZ4 := hid hsz4
  clear hR4 hT4 hf4 hpk hsz4
  refine HPK.out.mono ?_
  rintro e w5 ⟨lit, bc, rfl, hlo, hlb, hb5⟩
  have hf5 := FrB.of_below HR4.out.st.c.b hb5
  have hR5 := HR4.out.fr hb5
  have hT5 := HT4.out.fr hf5
  have b0 : w5.cell? ⟨w3.heap.size, 0, none⟩ = some (.pointer (some ⟨bb, 0, none⟩)) := by rw [cell_of_cells hT5.2]; rfl
  have HC := hid (hR5.equal hW1 hW64 (by omega) (by omega))
  have HL := hid (show LitIs σ0 _ lit bc from ⟨hlo, hlb⟩); have HT5 := hid hT5
  clear hR5 hT5 hf5 hlo hlb hb5
  go_wp2_with fail
  refine HC.out.mono ?_
  rintro e w6 ⟨z1, σ1, F1, rfl, hR6, hL1, hf6, hx1⟩
  have hT6 := HT5.out.fr hf6
  have b1 : w6.cell? ⟨w3.heap.size, 0, none⟩ = some (.pointer (some ⟨bb, 0, none⟩)) := by rw [cell_of_cells hT6.2]; rfl
  have HC1 := hid (hR6.less hW1 hW64 false (by omega) (by omega))
  have HT6 := hid hT6; have HL1 := hid hL1; have HX1 := hid hx1
  clear hR6 hT6 hL1 hf6 hx1 HC b0
  go_wp2_with fail
  refine HC1.out.mono ?_
  rintro e w7 ⟨z2, σ2, F2, rfl, hR7, hL2, hf7, hx2⟩
  have hT7 := HT6.out.fr hf7
  have b2 : w7.cell? ⟨w3.heap.size, 0, none⟩ = some (.pointer (some ⟨bb, 0, none⟩)) := by rw [cell_of_cells hT7.2]; rfl
  have HC2 := hid (hR7.less hW1 hW64 true (by omega) (by omega))
  have HT7 := hid hT7; have HL2 := hid hL2; have HX2 := hid hx2
  clear hR7 hT7 hL2 hf7 hx2 HC1 b1
  go_wp2_with fail
  refine HC2.out.mono ?_
  rintro e w8 ⟨z3, σ3, F3, rfl, hR8, hL3, hf8, hx3⟩
  have hT8 := HT7.out.fr hf8
  have b3 : w8.cell? ⟨w3.heap.size, 0, none⟩ = some (.pointer (some ⟨bb, 0, none⟩)) := by rw [cell_of_cells hT8.2]; rfl
  have hL := ((HL.out.ext HX1.out).ext HX2.out).ext hx3
  have HC3 := hid (hR8.choose hW1 hW64 hL (by omega) (by omega))
  have HT8 := hid hT8; have HL3 := hid hL3; have HX3 := hid hx3
  clear hR8 hT8 hL3 hf8 hx3 HC2 b2 hL
  go_wp2_with fail
  refine HC3.out.mono ?_
  rintro e wA ⟨v4, zs4, σ4, F4, rfl, hRA, hi4, hL4, hfA, hx4⟩
  have hl4 : zs4.length = W := by rw [hL4.len]; unfold chooseB; split; exact HAL.out; exact HBL.out
  obtain ⟨p5, c5, rfl, _, _, _⟩ := hi4.opn hl4
  have hTA := HT8.out.fr hfA
  have b4 : wA.cell? ⟨w3.heap.size, 0, none⟩ = some (.pointer (some ⟨bb, 0, none⟩)) := by rw [cell_of_cells hTA.2]; rfl
  have HC4 := hid (hRA.any hW1 hW64 (by omega) (by omega))
  have HTA := hid hTA; have HL4 := hid hL4; have HX4 := hid hx4; have HI4 := hid hi4; have HLN := hid hl4
  clear hRA hTA hL4 hfA hx4 HC3 b3 hi4 hl4
  go_wp2_with fail
  refine HC4.out.mono ?_
  rintro e w9 ⟨z5, σ5, F5, rfl, hR9, hL5, hf9, hx5⟩
  have hT9 := HTA.out.fr hf9
  have hi4 := HI4.out.fr hf9
  obtain ⟨_, _, e5, _, _, _, hr5⟩ := hi4.op
  rw [HLN.out] at e5
  injection e5 with e5
  rw [← e5] at hr5
  have hlits : LitsAre σ5 F5 ([z1, z2, z3, z5] ++ zs4) ([decide (ax = ay), lessS ax ay false, lessS ax ay true, ax.any id] ++ chooseB bc ax ay) := by
    have l1 := (((HL1.out.ext HX2.out).ext HX3.out).ext HX4.out).ext hx5
    have l2 := ((HL2.out.ext HX3.out).ext HX4.out).ext hx5
    have l3 := (HL3.out.ext HX4.out).ext hx5
    have l4 := HL4.out.ext hx5
    refine ⟨fun x hx => ?_, ?_⟩
    · rcases List.mem_append.1 hx with hx | hx
      · simp only [List.mem_cons, List.not_mem_nil, or_false] at hx
        rcases hx with rfl | rfl | rfl | rfl
        · exact l1.1
        · exact l2.1
        · exact l3.1
        · exact hL5.1
      · exact l4.1 x hx
    · rw [List.map_append, l4.2, List.map_cons, List.map_cons, List.map_cons, List.map_cons, List.map_nil, l1.2, l2.2, l3.2, hL5.2]
  have hlt9 := hT9.lt
  have t0 : w9.drew.cell? ⟨w3.heap.size, 0, none⟩ = some (.pointer (some ⟨bb, 0, none⟩)) := by show w9.cell? _ = _; rw [cell_of_cells hT9.2]; rfl
  have t1 : w9.drew.cell? ⟨w3.heap.size, 1, none⟩ = some (.slice pi (2 * W) ci) := by show w9.cell? _ = _; rw [cell_of_cells hT9.2]; rfl
  have t2 : w9.drew.cell? ⟨w3.heap.size, 2, none⟩ = some (.slice pw (2 * W) cw) := by show w9.cell? _ = _; rw [cell_of_cells hT9.2]; rfl
  have HR9 := hid hR9; have HT9 := hid hT9; have HLS := hid hlits; have HR5 := hid hr5
  clear hR9 hT9 hL5 hf9 hx5 HC4 b4 hi4 e5 hr5 hlits HX1 HX2 HX3 HX4
  have hFa : ∀ f, Fence.wide.fn f := fun _ => trivial
  have hS : (fun W' : World => W'.cell? ⟨w3.heap.size, 0, none⟩ = some (.pointer (some ⟨bb, 0, none⟩)) ∧ W'.cell? ⟨w3.heap.size, 1, none⟩ = some (.slice pi (2 * W) ci) ∧ W'.cell? ⟨w3.heap.size, 2, none⟩ = some (.slice pw (2 * W) cw)) w9.drew := ⟨t0, t1, t2⟩
  go_wp2_with fail
  refine (wpIn_wide (n := 9)).1 ?_
  refine wpIn_onlyN ?_
  refine wpIn_region_HJ (fun W' : World => W'.cell? ⟨w3.heap.size, 0, none⟩ = some (.pointer (some ⟨bb, 0, none⟩)) ∧ W'.cell? ⟨w3.heap.size, 1, none⟩ = some (.slice pi (2 * W) ci) ∧ W'.cell? ⟨w3.heap.size, 2, none⟩ = some (.slice pw (2 * W) cw)) 29 (by kernel_rfl) ?_
  simp only [List.size_toArray, List.length_cons, List.length_nil, Nat.reduceAdd]
  refine wpHJ_take (v := ?v0) 0 hFa rfl (by kernel_rfl) (fun _ _ _ h => h.elim) (Or.inl ⟨by rfl, ?y0⟩) hS ?r0
  case y0 => (intro w' hS'; obtain ⟨s1, s2, s3⟩ := hS'; go_simp; try rfl)
  simp only [Act.put, List.getElem_toArray, List.getElem_cons_succ, List.getElem_cons_zero, List.setIfInBounds_toArray, List.set_cons_zero, List.set_cons_succ]
  refine wpHJ_pure (v := ?v1) 1 hFa rfl (by kernel_rfl) (fun _ _ _ h => h.elim) (Or.inl ⟨by rfl, ?y1⟩) (.inr hS) ?r1
  case y1 => (intro w' _; go_simp; try rfl)
  simp only [Act.put, List.getElem_toArray, List.getElem_cons_succ, List.getElem_cons_zero, List.setIfInBounds_toArray, List.set_cons_zero, List.set_cons_succ]
  refine wpHJ_pure (v := ?v2) 2 hFa rfl (by kernel_rfl) (fun _ _ _ h => h.elim) (Or.inl ⟨by rfl, ?y2⟩) (.inr hS) ?r2
  case y2 => (intro w' _; go_simp; try rfl)
  simp only [Act.put, List.getElem_toArray, List.getElem_cons_succ, List.getElem_cons_zero, List.setIfInBounds_toArray, List.set_cons_zero, List.set_cons_succ]
  refine wpHJ_pure (v := ?v3) 3 hFa rfl (by kernel_rfl) (fun _ _ _ h => h.elim) (Or.inl ⟨by rfl, ?y3⟩) (.inr hS) ?r3
  case y3 => (intro w' _; go_simp; try rfl)
  simp only [Act.put, List.getElem_toArray, List.getElem_cons_succ, List.getElem_cons_zero, List.setIfInBounds_toArray, List.set_cons_zero, List.set_cons_succ]
  refine wpHJ_pure (v := ?v4) 4 hFa rfl (by kernel_rfl) (fun _ _ _ h => h.elim) (Or.inl ⟨by rfl, ?y4⟩) (.inr hS) ?r4
  case y4 => (intro w' _; go_simp; try rfl)
  simp only [Act.put, List.getElem_toArray, List.getElem_cons_succ, List.getElem_cons_zero, List.setIfInBounds_toArray, List.set_cons_zero, List.set_cons_succ]
  refine wpHJ_pure (v := ?v6) 6 hFa rfl (by kernel_rfl) (fun _ _ _ h => h.elim) (Or.inl ⟨by rfl, ?y6⟩) (.inr hS) ?r6
  case y6 => (intro w' _; go_simp; try rfl)
  simp only [Act.put, List.getElem_toArray, List.getElem_cons_succ, List.getElem_cons_zero, List.setIfInBounds_toArray, List.set_cons_zero, List.set_cons_succ]
  refine wpHJ_pure (v := ?v8) 8 hFa rfl (by kernel_rfl) (fun _ _ _ h => h.elim) (Or.inl ⟨by rfl, ?y8⟩) (.inr hS) ?r8
  case y8 => (intro w' _; go_simp; try rfl)
  simp only [Act.put, List.getElem_toArray, List.getElem_cons_succ, List.getElem_cons_zero, List.setIfInBounds_toArray, List.set_cons_zero, List.set_cons_succ]
  refine wpHJ_pure (v := ?v9) 9 hFa rfl (by kernel_rfl) (fun _ _ _ h => h.elim) (Or.inl ⟨by rfl, ?y9⟩) (.inr hS) ?r9
  case y9 => (intro w' _; go_simp; try rfl)
  simp only [Act.put, List.getElem_toArray, List.getElem_cons_succ, List.getElem_cons_zero, List.setIfInBounds_toArray, List.set_cons_zero, List.set_cons_succ]
  refine wpHJ_pure (v := ?v11) 11 hFa rfl (by kernel_rfl) (fun _ _ _ h => h.elim) (Or.inl ⟨by rfl, ?y11⟩) (.inr hS) ?r11
  case y11 => (intro w' _; go_simp; try rfl)
  simp only [Act.put, List.getElem_toArray, List.getElem_cons_succ, List.getElem_cons_zero, List.setIfInBounds_toArray, List.set_cons_zero, List.set_cons_succ]
  refine wpHJ_pure (v := ?v12) 12 hFa rfl (by kernel_rfl) (fun _ _ _ h => h.elim) (Or.inl ⟨by rfl, ?y12⟩) (.inr hS) ?r12
  case y12 => (intro w' _; go_simp; try rfl)
  simp only [Act.put, List.getElem_toArray, List.getElem_cons_succ, List.getElem_cons_zero, List.setIfInBounds_toArray, List.set_cons_zero, List.set_cons_succ]
  refine wpHJ_pure (v := ?v14) 14 hFa rfl (by kernel_rfl) (fun _ _ _ h => h.elim) (Or.inl ⟨by rfl, ?y14⟩) (.inr hS) ?r14
  case y14 => (intro w' _; go_simp; try rfl)
  simp only [Act.put, List.getElem_toArray, List.getElem_cons_succ, List.getElem_cons_zero, List.setIfInBounds_toArray, List.set_cons_zero, List.set_cons_succ]
  refine wpHJ_pure (v := ?v15) 15 hFa rfl (by kernel_rfl) (fun _ _ _ h => h.elim) (Or.inl ⟨by rfl, ?y15⟩) (.inr hS) ?r15
  case y15 => (intro w' _; go_simp; try rfl)
  simp only [Act.put, List.getElem_toArray, List.getElem_cons_succ, List.getElem_cons_zero, List.setIfInBounds_toArray, List.set_cons_zero, List.set_cons_succ]
  refine wpHJ_pure (v := ?v17) 17 hFa rfl (by kernel_rfl) (fun _ _ _ h => h.elim) (Or.inl ⟨by rfl, ?y17⟩) (.inr hS) ?r17
  case y17 => (intro w' _; go_simp; try rfl)
  simp only [Act.put, List.getElem_toArray, List.getElem_cons_succ, List.getElem_cons_zero, List.setIfInBounds_toArray, List.set_cons_zero, List.set_cons_succ]
  refine wpHJ_pure (v := ?v20) 20 hFa rfl (by kernel_rfl) (fun _ _ _ h => h.elim) (Or.inl ⟨by rfl, ?y20⟩) (.inr hS) ?r20
  case y20 => (intro w' _; go_simp; try rfl)
  simp only [Act.put, List.getElem_toArray, List.getElem_cons_succ, List.getElem_cons_zero, List.setIfInBounds_toArray, List.set_cons_zero, List.set_cons_succ]
  refine wpHJ_pure (v := ?v21) 21 hFa rfl (by kernel_rfl) (fun _ _ _ h => h.elim) (Or.inl ⟨by rfl, ?y21⟩) (.inr hS) ?r21
  case y21 => (intro w' _; go_simp; try rfl)
  simp only [Act.put, List.getElem_toArray, List.getElem_cons_succ, List.getElem_cons_zero, List.setIfInBounds_toArray, List.set_cons_zero, List.set_cons_succ]
  refine wpHJ_pure (v := ?v22) 22 hFa rfl (by kernel_rfl) (fun _ _ _ h => h.elim) (Or.inl ⟨by rfl, ?y22⟩) (.inr hS) ?r22
  case y22 => (intro w' _; go_simp; try rfl)
  simp only [Act.put, List.getElem_toArray, List.getElem_cons_succ, List.getElem_cons_zero, List.setIfInBounds_toArray, List.set_cons_zero, List.set_cons_succ]
  have cells : ∀ W', Below w9.heap.size w9 W' → W'.cell? ⟨w3.heap.size, 0, none⟩ = some (.pointer (some ⟨bb, 0, none⟩)) ∧ W'.cell? ⟨w3.heap.size, 1, none⟩ = some (.slice pi (2 * W) ci) ∧ W'.cell? ⟨w3.heap.size, 2, none⟩ = some (.slice pw (2 * W) cw) := fun W' hW => by
    have := (hW.block w3.heap.size hlt9).trans HT9.out.2
    exact ⟨by rw [cell_of_cells this]; rfl, by rw [cell_of_cells this]; rfl, by rw [cell_of_cells this]; rfl⟩
  have CE := hid cells
  clear cells t0 t1 t2 hS
  have hbd : Below w9.heap.size w9 w9.drew := ⟨rfl, rfl, rfl, Nat.le_refl _, fun _ _ => rfl⟩
  have hsd : w9.heap.size ≤ w9.drew.heap.size := Nat.le_refl _
  generalize w9.drew = wd at *
  -- the literals
  refine wpHJ_only 5 (by kernel_rfl) rfl ?_
  intro K hK
  rw [if_pos (by simp [Region.wanted])]
  go_simp
  have hb10 := hbd.alloc hsd (.cells #[.int .i64 z1, .int .i64 z2, .int .i64 z3, .int .i64 z5] 3)
  have ho10 := World.ownsRow_lit (base := w9.heap.size) (e := 3) (size := 1) wd #[.int .i64 z1, .int .i64 z2, .int .i64 z3, .int .i64 z5] 4 hsd (by unfold maxLen; omega) rfl
  generalize hw10 : World.alloc wd _ = w10 at *
  refine hK _ _ (.inr (.inr (CE.out w10 hb10))) ?_
  clear hK K hw10
  refine wpHJ_only 7 (by kernel_rfl) rfl ?_
  intro K hK
  rw [if_pos (by simp [Region.wanted])]
  refine wpIn_app hFa (.tmp 103) (.tmp 104) 23 rfl w9.heap.size 3 (.int .i64 0) 8 Try.underlying23 info_int rfl _ 4 _ rfl ho10 p5 W _ _ rfl (by rw [List.length_map, HLN.out]) (HR5.out.keep (R' := fun _ => True) (w' := w10) fun k hk => ⟨trivial, hb10.block k hk.size⟩) (ints_one _) (by omega) (by unfold maxLen; omega) hb10.size ?_
  intro v11 w11 ho11 hg11 _
  simp only [Act.put, List.getElem_toArray, List.getElem_cons_succ, List.getElem_cons_zero, List.setIfInBounds_toArray, List.set_cons_zero, List.set_cons_succ]
  have hb11 : Below w9.heap.size w9 w11 := hb10.grown hg11 hb10.size (fun j hj => (ho10.lt j hj).1)
  refine hK _ _ (.inr (.inr (CE.out w11 hb11))) ?_
  clear hK K
  obtain ⟨p6, c6, rfl⟩ := own_slice ho11
  have ho11' : w11.ownsRow w9.heap.size 3 1 (.slice p6 (4 + W) c6) (4 + W) (([z1, z2, z3, z5] ++ zs4).map (Value.int .i64)) := by rw [List.map_append]; exact ho11
  have HO11 := hid ho11'
  clear ho11 ho11' ho10 hg11
  -- the bits
  have hnew : ∀ {W' : World}, Below w9.heap.size w9 W' → ∀ k, Away bb w9 k → k < W'.heap.size := fun h k hk => Nat.lt_of_lt_of_le hk.size h.size
  have ra : ∀ {W' : World}, Below w9.heap.size w9 W' → Bools (Away bb w9) W' (.slice p3 W c3) ax := fun hb => HR9.out.ia.keep fun k hk => ⟨hk, hb.block k hk.size⟩
  have rb : ∀ {W' : World}, Below w9.heap.size w9 W' → Bools (Away bb w9) W' (.slice p4 W c4) ay := fun hb => HR9.out.ib.keep fun k hk => ⟨hk, hb.block k hk.size⟩
  have hlab : ay.length = ax.length := HBL.out.trans HAL.out.symm
  have hlm : ax.length ≤ 4194304 := by rw [HAL.out]; omega
  have up : ∀ {W1 W2 : World}, Below w11.heap.size w11 W1 → Below W1.heap.size W1 W2 → Below w11.heap.size w11 W2 := fun h k => below_tr h k
  have dn : ∀ {W1 : World}, Below w11.heap.size w11 W1 → Below w9.heap.size w9 W1 := fun h => ⟨h.os.trans hb11.os, h.tape.trans hb11.tape, h.output.trans hb11.output, Nat.le_trans hb11.size h.size, fun j hj => (h.block j (Nat.lt_of_lt_of_le hj hb11.size)).trans (hb11.block j hj)⟩
  have hr1 := refequal_any (.slice p3 W c3) (.slice p4 W c4) ax ay _ _ w11 (hnew hb11) (hnew hb11) (ra hb11) (rb hb11) hlab hlm
  refine wpHJ_only 10 (by kernel_rfl) rfl ?_
  intro K hK
  go_simp
  refine (callsIn_wide.2 hr1).mono ?_
  rintro e w12 ⟨rfl, hb12⟩
  refine hK _ _ (.inr (.inr (CE.out w12 (dn hb12)))) ?_
  clear hK K hr1
  have hr2 := refless_any (.slice p3 W c3) (.slice p4 W c4) ax ay false _ _ w12 (hnew (dn hb12)) (hnew (dn hb12)) (ra (dn hb12)) (rb (dn hb12)) hlab hlm
  refine wpHJ_only 13 (by kernel_rfl) rfl ?_
  intro K hK
  go_simp
  refine (callsIn_wide.2 hr2).mono ?_
  rintro e w13 ⟨rfl, hb13⟩
  have hb13 := up hb12 hb13
  refine hK _ _ (.inr (.inr (CE.out w13 (dn hb13)))) ?_
  clear hK K hr2
  have hr3 := refless_any (.slice p3 W c3) (.slice p4 W c4) ax ay true _ _ w13 (hnew (dn hb13)) (hnew (dn hb13)) (ra (dn hb13)) (rb (dn hb13)) hlab hlm
  refine wpHJ_only 16 (by kernel_rfl) rfl ?_
  intro K hK
  go_simp
  refine (callsIn_wide.2 hr3).mono ?_
  rintro e w14 ⟨rfl, hb14⟩
  have hb14 := up hb13 hb14
  refine hK _ _ (.inr (.inr (CE.out w14 (dn hb14)))) ?_
  clear hK K hr3
  have hr4 := refany_any (.slice p3 W c3) ax _ w14 (hnew (dn hb14)) (ra (dn hb14)) hlm
  refine wpHJ_only 18 (by kernel_rfl) rfl ?_
  intro K hK
  go_simp
  refine (callsIn_wide.2 hr4).mono ?_
  rintro e w15 ⟨rfl, hw15⟩
  subst hw15
  refine hK _ _ (.inr (.inr (CE.out _ (dn hb14)))) ?_
  clear hK K hr4
  -- the bits are laid and chosen, either way round
  refine wpHJ_two 19 23 (by kernel_rfl) rfl rfl ?_ ?_
  all_goals
    intro K hK
    go_simp
    first
    | (have hch := refchoose_any (.slice p3 W c3) (.slice p4 W c4) ax ay bc _ _ w15 (hnew (dn hb14)) (hnew (dn hb14)) (ra (dn hb14)) (rb (dn hb14)) hlab hlm
       refine (callsIn_wide.2 hch).mono ?_
       rintro e w16 ⟨v7, rfl, hch, hb16⟩
       have hlc : (chooseB bc ax ay).length = W := by unfold chooseB; split; exact HAL.out; exact HBL.out
       obtain ⟨p7, c7, rfl, _, _, hrc⟩ := hch.opn hlc
       have hb16 := up hb14 hb16
       refine hK _ _ (.inr (.inr (CE.out w16 (dn hb16)))) ?_
       clear hK K hch
       refine wpHJ_only 19 (by kernel_rfl) rfl ?_
       intro K hK
       go_simp
       have hb17 := hb16.alloc hb16.size (.cells #[.bool (decide (ax = ay)), .bool (lessS ax ay false), .bool (lessS ax ay true), .bool (ax.any id)] 4)
       have hoB := World.ownsRow_lit (base := w11.heap.size) (e := 4) (size := 1) w16 #[.bool (decide (ax = ay)), .bool (lessS ax ay false), .bool (lessS ax ay true), .bool (ax.any id)] 4 hb16.size (by unfold maxLen; omega) rfl
       have hrc' := hrc.keep (R' := fun _ => True) (w' := w16.alloc (.cells #[.bool (decide (ax = ay)), .bool (lessS ax ay false), .bool (lessS ax ay true), .bool (ax.any id)] 4)) (fun k hk => ⟨trivial, ((Below.refl _ _).alloc (Nat.le_refl _) _).block k hk.2⟩)
       clear hrc
       generalize World.alloc w16 _ = w17 at *
       refine hK _ _ (.inr (.inr (CE.out w17 (dn hb17)))) ?_
       clear hK K hb16)
    | (have hb16 := hb14.alloc hb14.size (.cells #[.bool (decide (ax = ay)), .bool (lessS ax ay false), .bool (lessS ax ay true), .bool (ax.any id)] 4)
       have hoA := World.ownsRow_lit (base := w11.heap.size) (e := 4) (size := 1) w15 #[.bool (decide (ax = ay)), .bool (lessS ax ay false), .bool (lessS ax ay true), .bool (ax.any id)] 4 hb14.size (by unfold maxLen; omega) rfl
       generalize World.alloc w15 _ = w16 at *
       refine hK _ _ (.inr (.inr (CE.out w16 (dn hb16)))) ?_
       clear hK K
       have hch := refchoose_any (.slice p3 W c3) (.slice p4 W c4) ax ay bc _ _ w16 (hnew (dn hb16)) (hnew (dn hb16)) (ra (dn hb16)) (rb (dn hb16)) hlab hlm
       refine wpHJ_only 23 (by kernel_rfl) rfl ?_
       intro K hK
       go_simp
       refine (callsIn_wide.2 hch).mono ?_
       rintro e w17 ⟨v7, rfl, hch, hb17⟩
       have hlc : (chooseB bc ax ay).length = W := by unfold chooseB; split; exact HAL.out; exact HBL.out
       obtain ⟨p7, c7, rfl, _, _, hrc⟩ := hch.opn hlc
       have hrc' := hrc.keep (R' := fun _ => True) (w' := w17) (fun k hk => ⟨trivial, rfl⟩)
       clear hrc
       have hoB := owns_keep hoA fun j hj => hb17.block j (hoA.lt j hj).2
       have hb17 := up hb16 hb17
       refine hK _ _ (.inr (.inr (CE.out w17 (dn hb17)))) ?_
       clear hK K hch hoA hb16)
  all_goals
    refine wpHJ_only 24 (by kernel_rfl) rfl ?_
    intro K hK
    rw [if_pos (by simp [Region.wanted])]
    refine wpIn_app hFa (.tmp 117) (.tmp 121) 22 rfl w11.heap.size 4 (.bool false) 1 Try.underlying22 info_bool rfl _ 4 _ rfl hoB p7 W _ _ rfl (by rw [List.length_map, ← chooseB, hlc]) hrc' (bools_one _) (by omega) (by unfold maxLen; omega) hb17.size ?_
    intro v18 w18 ho18 hg18 _
    simp only [Act.put, List.getElem_toArray, List.getElem_cons_succ, List.getElem_cons_zero, List.setIfInBounds_toArray, List.set_cons_zero, List.set_cons_succ]
    have hb18 := hb17.grown hg18 hb17.size (fun j hj => (hoB.lt j hj).1)
    refine hK _ _ (.inr (.inr (CE.out w18 (dn hb18)))) ?_
    clear hK K hg18
    have ho18' : w18.ownsRow w11.heap.size 4 1 v18 (4 + W) (([decide (ax = ay), lessS ax ay false, lessS ax ay true, ax.any id] ++ chooseB bc ax ay).map Value.bool) := by rw [List.map_append]; exact ho18
    obtain ⟨p8, c8, rfl⟩ := own_slice ho18
    have hlits : Ints (· < w18.heap.size) w18 (.slice p6 (4 + W) c6) ([z1, z2, z3, z5] ++ zs4) := Sl.of_owns (owns_keep HO11.out fun j hj => hb18.block j (HO11.out.lt j hj).2) (by omega) (fun j hj => Nat.lt_of_lt_of_le (HO11.out.lt j hj).2 hb18.size)
    have hwant : Bools (· < w18.heap.size) w18 (.slice p8 (4 + W) c8) (([z1, z2, z3, z5] ++ zs4).map (litT σ5)) := by
      rw [HLS.out.2]
      exact Sl.of_owns ho18' (by omega) (fun j hj => (ho18'.lt j hj).2)
    have hdec := decided_any bb (2 * W) σ5 F5 _ _ _ _ ([z1, z2, z3, z5] ++ zs4) _ _ w18 (HR9.out.fr (dn hb18)).st.c hlits hwant HLS.out.1 (fun _ h => h) (fun _ h => h) (by rw [List.length_append, HLN.out]; show 4 + W ≤ _; omega)
    refine wpHJ_only 25 (by kernel_rfl) rfl ?_
    intro K hK
    go_simp
    refine (callsIn_wide.2 hdec).mono ?_
    rintro e w19 ⟨rfl, hb19⟩
    have hb19 := up hb18 hb19
    refine hK _ _ (.inr (.inr (CE.out w19 (dn hb19)))) ?_
    clear hK K hdec hlits hwant ho18 ho18' hoB hrc'
    refine wpHJ_only 26 (by kernel_rfl) rfl ?_
    intro K hK
    go_simp
    refine hK _ _ (.inr (.inr (CE.out w19 (dn hb19)))) ?_
    clear hK K
    refine wpHJ_only 27 (by kernel_rfl) rfl ?_
    intro K hK
    rw [if_pos (by simp [Region.wanted, yielded])]
    go_simp
    refine (callsIn_wide.2 (awake_any w19)).mono ?_
    rintro e w20 ⟨rfl, hb20⟩
    have hb20 := up hb19 hb20
    refine hK _ _ (.inr (.inr (CE.out w20 (dn hb20)))) ?_
    clear hK K
    refine wpHJ_only 28 (by kernel_rfl) rfl ?_
    intro K hK
    go_simp
    refine hK _ _ (.inr (.inr (CE.out w20 (dn hb20)))) ?_
    clear hK K
    refine wpHJ_only 29 (by kernel_rfl) rfl ?_
    intro K hK
    go_simp
    refine hK _ _ (.inl rfl) ?_
    clear hK K
    refine wpHJ_done (by kernel_rfl) ?_ _
    simp only [onlyN, Exit.then]
    go_wp2
    go_ret
    have hS20 := (HR9.out.fr (dn hb20)).st
    exact ⟨rfl, ⟨hS20.fr.os.trans HB0.out.os, hS20.fr.tape.trans HB0.out.tape, hS20.fr.output.trans HB0.out.output, Nat.le_trans HB0.out.size hS20.fr.size, fun j hj => (hS20.fr.block j (Nat.lt_of_lt_of_le hj HB0.out.size)).trans (HB0.out.block j hj)⟩⟩

end Go.Proofs.Ytngimdbjcelkeaa
