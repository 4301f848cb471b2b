/-
  The walk of AdderSums.
-/
import Derived.Test.YtngimdbjcelkeaaLaw11
import Derived.Test.YtngimdbjcelkeaaRef1
namespace Go.Proofs.Ytngimdbjcelkeaa
set_option linter.unusedSimpArgs false
set_option linter.unusedVariables false
open Go.RowKit Go.Shelf
attribute [local go_sem] Oper.semAt_some

/-- A circuit's box is laid. -/
theorem St.box {w0 w : World} {bb n : Nat} {σ : Nat → Bool} {F : Form} {vin vval : Value} (h : St w0 w bb n σ F vin vval) (W : World) (hW : w.alloc (.cells #[.pointer (some ⟨bb, 0, none⟩), vin, vval] 28) = W) :
    St w0 W bb n σ F vin vval ∧ (Away bb W w.heap.size ∧ W.heap[w.heap.size]? = some (.cells #[.pointer (some ⟨bb, 0, none⟩), vin, vval] 28 (0, 0))) ∧ W.heap.size = w.heap.size + 1 ∧ FrB bb w W := by
  subst hW
  have hb : Below w.heap.size w (w.alloc (.cells #[.pointer (some ⟨bb, 0, none⟩), vin, vval] 28)) := (Below.refl _ _).alloc (Nat.le_refl _) _
  exact ⟨h.al _, ⟨h.c.b.away_new hb (Nat.le_refl _) (by simp), by rw [heap_al, if_pos rfl]⟩, by simp only [World.size_alloc], FrB.of_below h.c.b hb⟩

set_option maxRecDepth 100000 in
set_option maxHeartbeats 3200000 in
theorem sums_walk (z cr : Int) (vals : List Bool) (lx ly : List Int) (vv vx vy : Value) (w : World) (hz : -9223372036854775808 ≤ z ∧ z ≤ 9223372036854775807) (hcr : -9223372036854775808 ≤ cr ∧ cr ≤ 9223372036854775807)
    (hv : Bools (· < w.heap.size) w vv vals) (hx : Ints (· < w.heap.size) w vx lx) (hy : Ints (· < w.heap.size) w vy ly)
    (hlx : ∀ x ∈ lx, -9223372036854775808 ≤ x ∧ x ≤ 9223372036854775807) (hly : ∀ x ∈ ly, -9223372036854775808 ≤ x ∧ x ≤ 9223372036854775807) :
    Calls Try.prog 3 #[.agg #[.int .i64 z, vv, vx, vy], .int .i64 cr] w fun e w' => e = .returned (.bool true) ∧ Below w.heap.size w w' := by
  have hb0 : Below w.heap.size w (w.alloc (.cells #[.int .i64 z, vv, vx, vy] 25)) := (Below.refl _ _).alloc (Nat.le_refl _) _
  have hk0 : ∀ k, k < w.heap.size → k < (w.alloc (.cells #[.int .i64 z, vv, vx, vy] 25)).heap.size ∧ (w.alloc (.cells #[.int .i64 z, vv, vx, vy] 25)).heap[k]? = w.heap[k]? := fun k hk => ⟨by simp only [World.size_alloc]; omega, hb0.block k hk⟩
  have hmk := make_mk z vals lx ly vv vx vy (w.alloc (.cells #[.int .i64 z, vv, vx, vy] 25)) hz (hv.keep hk0) (hx.keep hk0) (hy.keep hk0) hlx hly ((z % 64).toNat + 1) rfl
  have hW1 : 1 ≤ (z % 64).toNat + 1 := by omega
  have hW64 : (z % 64).toNat + 1 ≤ 64 := by omega
  generalize (z % 64).toNat + 1 = W at *
  obtain ⟨pv, cv, rfl, _, _, _, _⟩ := hv.op
  obtain ⟨px, cx, rfl, _, _, _, _⟩ := hx.op
  obtain ⟨py, cy, rfl, _, _, _, _⟩ := hy.op
  have HMK := hid hmk; have HB0 := hid hb0
  clear hmk hb0 hk0 hv hx hy hlx hly
  go_enter Try.func3, Try.ntmps3
  go_wp2_with (go_at_call 23; refine HMK.out.mono ?_; rintro e w3 ⟨bb, σ0, vin, vval, v1, v2, va, vb, xs, ys, rfl, hC, hxl, hyl, hxo, hyo, ix, iy, ia, ib, hbe, hbb, hlo⟩; obtain ⟨pi, ci, rfl, _, _, _⟩ := hC.inp.opn (insM_len _); obtain ⟨pw, cw, rfl, _, _, _⟩ := hC.val.opn (valsM_len _ _); obtain ⟨p1, c1, rfl, _, _, _⟩ := ix.opn hxl; obtain ⟨p2, c2, rfl, _, _, _⟩ := iy.opn hyl; obtain ⟨p3, c3, rfl, _, _, _⟩ := ia.opn (n := W) (by rw [List.length_map]; exact hxl); obtain ⟨p4, c4, rfl, _, _, _⟩ := ib.opn (n := W) (by rw [List.length_map]; exact hyl); have HST := hid (St.mk hC hbe hlo); have HXL := hid hxl; have HYL := hid hyl; have HXO := hid hxo; have HYO := hid hyo; have HIX := hid ix; have HIY := hid iy; have HIA := hid ia; have HIB := hid ib; clear hC hbe hlo hxl hyl hxo hyo ix iy ia ib hbb)
  -- the box; Pick
  obtain ⟨hS4, hT4, hsz4, hf4⟩ := HST.out.box _ rfl
  generalize hw4 : World.alloc w3 _ = w4 at *
  clear hw4
  have hpk := pick_any bb _ σ0 _ _ _ cr w4 hS4.c hcr
  have HS4 := hid hS4; have HT4 := hid hT4; have HF4 := hid hf4; have HPK := hid hpk; have HSZ4 := hid hsz4
  clear hS4 hT4 hf4 hpk hsz4
  refine HPK.out.mono ?_
  rintro e w5 ⟨lit, bc, rfl, hlo, hlb, hb5⟩
  have hS5 := HS4.out.below hb5
  have hf5 := FrB.of_below HS4.out.c.b hb5
  have hT5 : Away bb w5 w3.heap.size ∧ w5.heap[w3.heap.size]? = some (.cells #[.pointer (some ⟨bb, 0, none⟩), .slice pi (2 * W) ci, .slice pw (2 * W) cw] 28 (0, 0)) := ⟨(hf5.keep _ HT4.out.1).1, (hf5.keep _ HT4.out.1).2.trans HT4.out.2⟩
  have hf35 := HF4.out.trans hf5
  have b0 : w5.cell? ⟨w3.heap.size, 0, none⟩ = some (.pointer (some ⟨bb, 0, none⟩)) := by rw [cell_of_cells hT5.2]; rfl
  have hadd := add_c hS5.c (by rw [HXL.out]; exact hW1) (by rw [HXL.out]; exact hW64) (by rw [HXL.out, HYL.out]) HXO.out HYO.out (HIX.out.fr hf35) (HIY.out.fr hf35) hlo (by rw [HXL.out]; show 2 * W + 1 + 3 * W < _; omega) (by rw [HXL.out]; show 1 + 18 * W ≤ _; omega)
  rw [hlb] at hadd
  have HADD := hid hadd; have HS5 := hid hS5; have HT5 := hid hT5; have HF35 := hid hf35
  clear hadd hS5 hT5 hf5 hf35 hlo hlb hb5
  go_wp2_with fail
  refine HADD.out.mono ?_
  rintro e w6 ⟨v5, zs1, σ1, F1, rfl, hC6, hi6, hok1, hbt1, hf6, hx1⟩
  have hl6 : zs1.length = W := by
    have := congrArg List.length hbt1
    rw [List.length_map, addB_len _ _ _ (by rw [List.length_map, List.length_map, HXL.out, HYL.out]), List.length_map, HXL.out] at this; exact this
  obtain ⟨p5, c5, rfl, _, _, _⟩ := hi6.opn hl6
  have hS6 := HS5.out.step hf6 hC6
  have hT6 : Away bb w6 w3.heap.size ∧ w6.heap[w3.heap.size]? = some (.cells #[.pointer (some ⟨bb, 0, none⟩), .slice pi (2 * W) ci, .slice pw (2 * W) cw] 28 (0, 0)) := ⟨(hf6.keep _ HT5.out.1).1, (hf6.keep _ HT5.out.1).2.trans HT5.out.2⟩
  have b0' : w6.cell? ⟨w3.heap.size, 0, none⟩ = some (.pointer (some ⟨bb, 0, none⟩)) := by rw [cell_of_cells hT6.2]; rfl
  have hf36 := HF35.out.trans hf6
  have hv1 := hx1.v1; have hcc1 := hx1.c1
  have hsub := sub_c hS6.c (by rw [HXL.out]; exact hW1) (by rw [HXL.out]; exact hW64) (by rw [HXL.out, HYL.out]) (ext_ok hx1 HXO.out) (ext_ok hx1 HYO.out) (HIX.out.fr hf36) (HIY.out.fr hf36) (by rw [HXL.out] at hv1 ⊢; have : (⟨2 * W + 1, [[1]]⟩ : Form).vars = 2 * W + 1 := rfl; omega) (by rw [HXL.out] at hcc1 ⊢; have : (⟨2 * W + 1, [[1]]⟩ : Form).cls.length = 1 := rfl; omega)
  rw [ext_bits hx1 HXO.out, ext_bits hx1 HYO.out] at hsub
  have HSUB := hid hsub; have HS6 := hid hS6; have HT6 := hid hT6; have HF36 := hid hf36; have HI6 := hid hi6; have HOK1 := hid hok1; have HBT1 := hid hbt1; have HX1 := hid hx1; have HL6 := hid hl6
  clear hsub hS6 hT6 hf36 hi6 hok1 hbt1 hx1 hl6 hC6 hf6 b0 hv1 hcc1 HADD
  go_wp2_with fail
  refine HSUB.out.mono ?_
  rintro e w7 ⟨v6, zs2, σ2, F2, rfl, hC7, hi7, hok2, hbt2, hf7, hx2⟩
  have hl7 : zs2.length = W := by
    have := congrArg List.length hbt2
    rw [List.length_map, addB_len _ _ _ (by rw [List.length_map, List.length_map, List.length_map, HXL.out, HYL.out]), List.length_map, HXL.out] at this; exact this
  obtain ⟨p6, c6, rfl, _, _, _⟩ := hi7.opn hl7
  have hS7 := HS6.out.step hf7 hC7
  have hT7 := (hf7.keep _ HT6.out.1).2.trans HT6.out.2
  have hlt7 : w3.heap.size < w7.heap.size := (Array.getElem?_eq_some_iff.1 hT7).1
  have hf37 := HF36.out.trans hf7
  have hi6' := HI6.out.fr hf7
  have hb1 := (ext_bits hx2 HOK1.out).trans HBT1.out
  have hok1' := ext_ok hx2 HOK1.out
  have t0 : w7.drew.cell? ⟨w3.heap.size, 0, none⟩ = some (.pointer (some ⟨bb, 0, none⟩)) := by show w7.cell? _ = _; rw [cell_of_cells hT7]; rfl
  have t1 : w7.drew.cell? ⟨w3.heap.size, 1, none⟩ = some (.slice pi (2 * W) ci) := by show w7.cell? _ = _; rw [cell_of_cells hT7]; rfl
  have t2 : w7.drew.cell? ⟨w3.heap.size, 2, none⟩ = some (.slice pw (2 * W) cw) := by show w7.cell? _ = _; rw [cell_of_cells hT7]; rfl
  have ia7 := HIA.out.fr hf37
  have ib7 := HIB.out.fr hf37
  obtain ⟨_, _, e5, _, _, _, hr5⟩ := hi6'.op
  obtain ⟨_, _, e6, _, _, _, hr6⟩ := hi7.op
  rw [HL6.out] at e5
  rw [hl7] at e6
  injection e5 with e5
  injection e6 with e6
  rw [← e5] at hr5
  rw [← e6] at hr6
  have HS7 := hid hS7; have HT7 := hid hT7; have HI6' := hid hi6'; have HI7 := hid hi7; have HB1 := hid hb1; have HB2 := hid hbt2; have HOK1' := hid hok1'; have HOK2 := hid hok2; have HL7 := hid hl7; have HIA7 := hid ia7; have HIB7 := hid ib7; have HR5 := hid hr5; have HR6 := hid hr6
  clear hS7 hT7 hf37 hi6' hi7 hb1 hbt2 hok1' hok2 hl7 ia7 ib7 hr5 hr6 e5 e6 hC7 hf7 hx2 HSUB b0'
  have hFa : ∀ f, Fence.wide.fn f := fun _ => trivial
  have hS : (fun W' : World => W'.cell? ⟨w3.heap.size, 0, none⟩ = some (.pointer (some ⟨bb, 0, none⟩)) ∧ W'.cell? ⟨w3.heap.size, 1, none⟩ = some (.slice pi (2 * W) ci) ∧ W'.cell? ⟨w3.heap.size, 2, none⟩ = some (.slice pw (2 * W) cw)) w7.drew := ⟨t0, t1, t2⟩
  go_wp2_with fail
  refine (wpIn_wide (n := 9)).1 ?_
  refine wpIn_onlyN ?_
  refine wpIn_region_HJ (fun W' : World => W'.cell? ⟨w3.heap.size, 0, none⟩ = some (.pointer (some ⟨bb, 0, none⟩)) ∧ W'.cell? ⟨w3.heap.size, 1, none⟩ = some (.slice pi (2 * W) ci) ∧ W'.cell? ⟨w3.heap.size, 2, none⟩ = some (.slice pw (2 * W) cw)) 17 (by kernel_rfl) ?_
  simp only [List.size_toArray, List.length_cons, List.length_nil, Nat.reduceAdd]
  refine wpHJ_take (v := ?v0) 0 hFa rfl (by kernel_rfl) (fun _ _ _ h => h.elim) (Or.inl ⟨by rfl, ?y0⟩) hS ?r0
  case y0 => (intro w' hS'; obtain ⟨s1, s2, s3⟩ := hS'; go_simp; try rfl)
  simp only [Act.put, List.getElem_toArray, List.getElem_cons_succ, List.getElem_cons_zero, List.setIfInBounds_toArray, List.set_cons_zero, List.set_cons_succ]
  refine wpHJ_pure (v := ?v1) 1 hFa rfl (by kernel_rfl) (fun _ _ _ h => h.elim) (Or.inl ⟨by rfl, ?y1⟩) (.inr hS) ?r1
  case y1 => (intro w' _; go_simp; try rfl)
  simp only [Act.put, List.getElem_toArray, List.getElem_cons_succ, List.getElem_cons_zero, List.setIfInBounds_toArray, List.set_cons_zero, List.set_cons_succ]
  refine wpHJ_pure (v := ?v3) 3 hFa rfl (by kernel_rfl) (fun _ _ _ h => h.elim) (Or.inl ⟨by rfl, ?y3⟩) (.inr hS) ?r3
  case y3 => (intro w' _; go_simp; try rfl)
  simp only [Act.put, List.getElem_toArray, List.getElem_cons_succ, List.getElem_cons_zero, List.setIfInBounds_toArray, List.set_cons_zero, List.set_cons_succ]
  refine wpHJ_pure (v := ?v5) 5 hFa rfl (by kernel_rfl) (fun _ _ _ h => h.elim) (Or.inl ⟨by rfl, ?y5⟩) (.inr hS) ?r5
  case y5 => (intro w' _; go_simp; try rfl)
  simp only [Act.put, List.getElem_toArray, List.getElem_cons_succ, List.getElem_cons_zero, List.setIfInBounds_toArray, List.set_cons_zero, List.set_cons_succ]
  refine wpHJ_pure (v := ?v6) 6 hFa rfl (by kernel_rfl) (fun _ _ _ h => h.elim) (Or.inl ⟨by rfl, ?y6⟩) (.inr hS) ?r6
  case y6 => (intro w' _; go_simp; try rfl)
  simp only [Act.put, List.getElem_toArray, List.getElem_cons_succ, List.getElem_cons_zero, List.setIfInBounds_toArray, List.set_cons_zero, List.set_cons_succ]
  refine wpHJ_pure (v := ?v7) 7 hFa rfl (by kernel_rfl) (fun _ _ _ h => h.elim) (Or.inl ⟨by rfl, ?y7⟩) (.inr hS) ?r7
  case y7 => (intro w' _; go_simp; try rfl)
  simp only [Act.put, List.getElem_toArray, List.getElem_cons_succ, List.getElem_cons_zero, List.setIfInBounds_toArray, List.set_cons_zero, List.set_cons_succ]
  refine wpHJ_pure (v := ?v9) 9 hFa rfl (by kernel_rfl) (fun _ _ _ h => h.elim) (Or.inl ⟨by rfl, ?y9⟩) (.inr hS) ?r9
  case y9 => (intro w' _; go_simp; try rfl)
  simp only [Act.put, List.getElem_toArray, List.getElem_cons_succ, List.getElem_cons_zero, List.setIfInBounds_toArray, List.set_cons_zero, List.set_cons_succ]
  refine wpHJ_pure (v := ?v10) 10 hFa rfl (by kernel_rfl) (fun _ _ _ h => h.elim) (Or.inl ⟨by rfl, ?y10⟩) (.inr hS) ?r10
  case y10 => (intro w' _; go_simp; try rfl)
  simp only [Act.put, List.getElem_toArray, List.getElem_cons_succ, List.getElem_cons_zero, List.setIfInBounds_toArray, List.set_cons_zero, List.set_cons_succ]
  have hnn : ∀ j : Nat, some j ≠ (Value.slice none 0 0).ownBlock := fun j e => by cases e
  -- the literals
  refine wpHJ_only 2 (by kernel_rfl) rfl ?_
  intro K hK
  rw [if_pos (by simp [Region.wanted])]
  refine wpIn_app hFa (.const (.slice none 0 0)) (.tmp 58) 23 rfl w7.heap.size 3 (.int .i64 0) 8 Try.underlying23 info_int rfl _ 0 [] rfl (World.ownsRow_nil _ _ _ _) p5 W _ _ rfl (by rw [List.length_map, HL6.out]) (HR5.out.keep (w' := w7.drew) fun k hk => ⟨hk, rfl⟩) (ints_one _) (by omega) (by unfold maxLen; omega) (Nat.le_refl _) ?_
  intro v7 w8 ho8 hg8 _
  simp only [Act.put, List.getElem_toArray, List.getElem_cons_succ, List.getElem_cons_zero, List.setIfInBounds_toArray, List.set_cons_zero, List.set_cons_succ]
  have hb8 : Below w7.heap.size w7 w8 := ⟨hg8.os, hg8.tape, hg8.output, hg8.size, fun j hj => hg8.block j hj (hnn _)⟩
  have cells : ∀ W', Below w7.heap.size w7 W' → W'.cell? ⟨w3.heap.size, 0, none⟩ = some (.pointer (some ⟨bb, 0, none⟩)) ∧ W'.cell? ⟨w3.heap.size, 1, none⟩ = some (.slice pi (2 * W) ci) ∧ W'.cell? ⟨w3.heap.size, 2, none⟩ = some (.slice pw (2 * W) cw) := fun W' hW => by
    have := (hW.block w3.heap.size hlt7).trans HT7.out
    exact ⟨by rw [cell_of_cells this]; rfl, by rw [cell_of_cells this]; rfl, by rw [cell_of_cells this]; rfl⟩
  have CE := hid cells
  refine hK _ _ (.inr (.inr (cells w8 hb8))) ?_
  clear hK K hS t0 t1 t2 cells
  rw [Nat.zero_add, List.nil_append] at ho8
  obtain ⟨p7, c7, rfl⟩ := own_slice ho8
  refine wpHJ_only 4 (by kernel_rfl) rfl ?_
  intro K hK
  rw [if_pos (by simp [Region.wanted])]
  refine wpIn_app hFa (.tmp 59) (.tmp 60) 23 rfl w7.heap.size 3 (.int .i64 0) 8 Try.underlying23 info_int rfl _ W _ rfl ho8 p6 W _ _ rfl (by rw [List.length_map, HL7.out]) (HR6.out.keep (R' := fun _ => True) (w' := w8) fun k hk => ⟨trivial, hb8.block k hk.size⟩) (ints_one _) (by omega) (by unfold maxLen; omega) hb8.size ?_
  intro v8 w9 ho9 hg9 _
  simp only [Act.put, List.getElem_toArray, List.getElem_cons_succ, List.getElem_cons_zero, List.setIfInBounds_toArray, List.set_cons_zero, List.set_cons_succ]
  have hb9 : Below w7.heap.size w7 w9 := ⟨hg9.os.trans hb8.os, hg9.tape.trans hb8.tape, hg9.output.trans hb8.output, Nat.le_trans hb8.size hg9.size, fun j hj => (hg9.block j (Nat.lt_of_lt_of_le hj hb8.size) (fun e => by have := (ho8.lt j e.symm).1; omega)).trans (hb8.block j hj)⟩
  refine hK _ _ (.inr (.inr (CE.out w9 hb9))) ?_
  clear hK K
  rw [← List.map_append] at ho9
  obtain ⟨p8, c8, rfl⟩ := own_slice ho9
  -- the bits
  have hnew : ∀ {W' : World}, Below w7.heap.size w7 W' → ∀ k, Away bb w7 k → k < W'.heap.size := fun h k hk => Nat.lt_of_lt_of_le hk.size h.size
  have hradd := refadd_any (.slice p3 W c3) (.slice p4 W c4) _ _ bc _ _ w9 (hnew hb9) (hnew hb9) (HIA7.out.keep fun k hk => ⟨hk, hb9.block k hk.size⟩) (HIB7.out.keep fun k hk => ⟨hk, hb9.block k hk.size⟩) (by rw [List.length_map, List.length_map, HXL.out, HYL.out]) (by rw [List.length_map, HXL.out]; omega)
  refine wpHJ_only 8 (by kernel_rfl) rfl ?_
  intro K hK
  go_simp
  refine (callsIn_wide.2 hradd).mono ?_
  rintro e w10 ⟨v9, rfl, ho10, hb10⟩
  rw [List.length_map, HXL.out] at ho10
  have hbb10 : Below w7.heap.size w7 w10 := ⟨hb10.os.trans hb9.os, hb10.tape.trans hb9.tape, hb10.output.trans hb9.output, Nat.le_trans hb9.size hb10.size, fun j hj => (hb10.block j (Nat.lt_of_lt_of_le hj hb9.size)).trans (hb9.block j hj)⟩
  refine hK _ _ (.inr (.inr (CE.out w10 hbb10))) ?_
  clear hK K hradd
  obtain ⟨p9, c9, rfl⟩ := own_slice ho10
  have hrsub := refsub_any (.slice p3 W c3) (.slice p4 W c4) _ _ _ _ w10 (hnew hbb10) (hnew hbb10) (HIA7.out.keep fun k hk => ⟨hk, hbb10.block k hk.size⟩) (HIB7.out.keep fun k hk => ⟨hk, hbb10.block k hk.size⟩) (by rw [List.length_map, List.length_map, HXL.out, HYL.out]) (by rw [List.length_map, HXL.out]; omega)
  refine wpHJ_only 11 (by kernel_rfl) rfl ?_
  intro K hK
  go_simp
  refine (callsIn_wide.2 hrsub).mono ?_
  rintro e w11 ⟨v10, rfl, hi11, hb11⟩
  have hbb11 : Below w7.heap.size w7 w11 := ⟨hb11.os.trans hbb10.os, hb11.tape.trans hbb10.tape, hb11.output.trans hbb10.output, Nat.le_trans hbb10.size hb11.size, fun j hj => (hb11.block j (Nat.lt_of_lt_of_le hj hbb10.size)).trans (hbb10.block j hj)⟩
  refine hK _ _ (.inr (.inr (CE.out w11 hbb11))) ?_
  clear hK K hrsub
  have hl11 : (addB (xs.map (litT σ0)) ((ys.map (litT σ0)).map (!·)) true).length = W := by rw [addB_len _ _ _ (by rw [List.length_map, List.length_map, List.length_map, HXL.out, HYL.out]), List.length_map, HXL.out]
  obtain ⟨p10, c10, rfl, _, _, hr11⟩ := hi11.opn hl11
  have ho11 := owns_keep ho10 fun j hj => hb11.block j (ho10.lt j hj).2
  refine wpHJ_only 12 (by kernel_rfl) rfl ?_
  intro K hK
  rw [if_pos (by simp [Region.wanted])]
  refine wpIn_app hFa (.tmp 65) (.tmp 68) 22 rfl w9.heap.size 4 (.bool false) 1 Try.underlying22 info_bool rfl _ W _ rfl ho11 p10 W c10 _ rfl (by rw [List.length_map, hl11]) hr11 (bools_one _) (by omega) (by unfold maxLen; omega) (Nat.le_trans hb10.size hb11.size) ?_
  intro v11 w12 ho12 hg12 _
  simp only [Act.put, List.getElem_toArray, List.getElem_cons_succ, List.getElem_cons_zero, List.setIfInBounds_toArray, List.set_cons_zero, List.set_cons_succ]
  have hbb12 : Below w9.heap.size w9 w12 := ⟨hg12.os.trans (hb11.os.trans hb10.os), hg12.tape.trans (hb11.tape.trans hb10.tape), hg12.output.trans (hb11.output.trans hb10.output), Nat.le_trans hb10.size (Nat.le_trans hb11.size hg12.size), fun j hj => (hg12.block j (Nat.lt_of_lt_of_le hj (Nat.le_trans hb10.size hb11.size)) (fun e => by have := (ho11.lt j e.symm).1; omega)).trans ((hb11.block j (Nat.lt_of_lt_of_le hj hb10.size)).trans (hb10.block j hj))⟩
  have hb712 : Below w7.heap.size w7 w12 := ⟨hbb12.os.trans hb9.os, hbb12.tape.trans hb9.tape, hbb12.output.trans hb9.output, Nat.le_trans hb9.size hbb12.size, fun j hj => (hbb12.block j (Nat.lt_of_lt_of_le hj hb9.size)).trans (hb9.block j hj)⟩
  refine hK _ _ (.inr (.inr (CE.out w12 hb712))) ?_
  clear hK K
  rw [← List.map_append] at ho12
  obtain ⟨p11, c11, rfl⟩ := own_slice ho12
  have hlits : Ints (· < w12.heap.size) w12 (.slice p8 (W + W) c8) (zs1 ++ zs2) := Sl.of_owns (owns_keep ho9 fun j hj => hbb12.block j (ho9.lt j hj).2) (by omega) (fun j hj => Nat.lt_of_lt_of_le (ho9.lt j hj).2 hbb12.size)
  have hwant : Bools (· < w12.heap.size) w12 (.slice p11 (W + W) c11) ((zs1 ++ zs2).map (litT σ2)) := by
    rw [List.map_append, HB1.out, HB2.out]
    exact Sl.of_owns ho12 (by omega) (fun j hj => (ho12.lt j hj).2)
  have hdec := decided_any bb (2 * W) σ2 F2 _ _ _ _ (zs1 ++ zs2) _ _ w12 (HS7.out.below hb712).c hlits hwant (fun x hx => by
    rcases List.mem_append.1 hx with hx | hx
    · exact HOK1'.out x hx
    · exact HOK2.out x hx) (fun _ h => h) (fun _ h => h) (by rw [List.length_append, HL6.out, HL7.out]; omega)
  refine wpHJ_only 13 (by kernel_rfl) rfl ?_
  intro K hK
  go_simp
  refine (callsIn_wide.2 hdec).mono ?_
  rintro e w13 ⟨rfl, hb13⟩
  have hb713 : Below w7.heap.size w7 w13 := ⟨hb13.os.trans hb712.os, hb13.tape.trans hb712.tape, hb13.output.trans hb712.output, Nat.le_trans hb712.size hb13.size, fun j hj => (hb13.block j (Nat.lt_of_lt_of_le hj hb712.size)).trans (hb712.block j hj)⟩
  refine hK _ _ (.inr (.inr (CE.out w13 hb713))) ?_
  clear hK K hdec hlits hwant ho8 ho9 ho10 ho11 ho12 hg8 hg9 hg12 hi11 hr11 hb8 hb9 hb10 hb11 hbb10 hbb11 hbb12 hb712 hb13
  refine wpHJ_only 14 (by kernel_rfl) rfl ?_
  intro K hK
  go_simp
  refine hK _ _ (.inr (.inr (CE.out w13 hb713))) ?_
  clear hK K
  refine wpHJ_only 15 (by kernel_rfl) rfl ?_
  intro K hK
  rw [if_pos (by simp [Region.wanted, yielded])]
  go_simp
  refine (callsIn_wide.2 (awake_any w13)).mono ?_
  rintro e w14 ⟨rfl, hb14⟩
  have hb714 : Below w7.heap.size w7 w14 := ⟨hb14.os.trans hb713.os, hb14.tape.trans hb713.tape, hb14.output.trans hb713.output, Nat.le_trans hb713.size hb14.size, fun j hj => (hb14.block j (Nat.lt_of_lt_of_le hj hb713.size)).trans (hb713.block j hj)⟩
  refine hK _ _ (.inr (.inr (CE.out w14 hb714))) ?_
  clear hK K
  refine wpHJ_only 16 (by kernel_rfl) rfl ?_
  intro K hK
  go_simp
  refine hK _ _ (.inr (.inr (CE.out w14 hb714))) ?_
  clear hK K
  refine wpHJ_only 17 (by kernel_rfl) rfl ?_
  intro K hK
  go_simp
  refine hK _ _ (.inl rfl) ?_
  clear hK K
  refine wpHJ_done (by kernel_rfl) ?_ _
  simp only [onlyN, Exit.then]
  go_wp2
  go_ret
  have hS14 := HS7.out.below hb714
  exact ⟨rfl, ⟨hS14.fr.os.trans HB0.out.os, hS14.fr.tape.trans HB0.out.tape, hS14.fr.output.trans HB0.out.output, Nat.le_trans HB0.out.size hS14.fr.size, fun j hj => (hS14.fr.block j (Nat.lt_of_lt_of_le hj HB0.out.size)).trans (HB0.out.block j hj)⟩⟩

end Go.Proofs.Ytngimdbjcelkeaa
