/-
  The walk of ShiftEdges.
-/
import Derived.Test.YtjcnhnifageikaaDoorShBy
namespace Go.Proofs.YtjcnhnifageikaaDoor
set_option linter.unusedSimpArgs false
set_option linter.unusedVariables false
open Go.RowKit Go.Shelf

/-- Two lists of the law's own under way. -/
structure TwoL (w0 W4 : World) (bb n V K : Nat) (vin vval : Value) (σ : Nat → Bool) (F : Form) (kl kw : Nat) (zs : List Int) (bits : List Bool) (wr : World) (vl vw : Value) : Prop where
  bas : Bas w0 bb n vin vval V K wr σ F
  fr : FrB bb W4 wr
  ol : wr.ownsRow W4.heap.size 3 1 vl kl (zs.map (Value.int .i64))
  al : ∀ j, vl.ownBlock = some j → Away bb wr j
  ow : wr.ownsRow W4.heap.size 4 1 vw kw (bits.map Value.bool)
  aw : ∀ j, vw.ownBlock = some j → Away bb wr j
  w3 : w0.heap.size ≤ W4.heap.size
  ci : Ints (Away bb W4) W4 vin (insM n)
  cv : Bools (Away bb W4) W4 vval (valsM n σ)

/-- A value is appended to the second one. -/
theorem TwoL.push {w0 W4 wr w' : World} {bb n V K kl kw : Nat} {vin vval vl vw vw' : Value} {σ : Nat → Bool} {F : Form} {zs : List Int} {bits : List Bool} {b : Bool} {o : Obj} (h : TwoL w0 W4 bb n V K vin vval σ F kl kw zs bits wr vl vw) (hg : (wr.alloc o).grownBy w' vw.ownBlock)
    (ho : w'.ownsRow W4.heap.size 4 1 vw' (kw + 1) (bits.map Value.bool ++ [.bool b])) (hv : vw'.ownBlock = vw.ownBlock ∨ vw'.ownBlock = some (wr.alloc o).heap.size) :
    TwoL w0 W4 bb n V K vin vval σ F kl (kw + 1) zs (bits ++ [b]) w' vl vw' := by
  have hga := (World.grownBy_alloc wr o vw.ownBlock).trans hg
  obtain ⟨b1, b2, b3⟩ := h.bas.grown h.fr h.ci h.cv h.w3 hga (fun r hr => ⟨h.aw r hr, (h.ow.lt r hr).1⟩)
  refine ⟨b1, b2, owns_keep h.ol fun j hj => hga.block j (h.ol.lt j hj).2 (fun e => own_ne h.ol h.ow (by decide) j hj e.symm), fun j hj => b3 j (h.al j hj), by rw [List.map_append]; exact ho, fun j hj => ?_, h.w3, h.ci, h.cv⟩
  rcases hv with e | e
  · exact b3 j (h.aw j (by rw [← e]; exact hj))
  · have hlt := (ho.lt j hj).2
    rw [e] at hj
    cases hj
    exact h.bas.st.c.b.grown_new hga (fun r hr => h.aw r hr) (by rw [World.size_alloc]; omega) hlt

theorem and_small : ∀ (W : Fin 8) (q : Fin 16), (bits BinOp.and IntKind.i64 ((q.val : Nat) : Int) (((2 ^ W.val : Nat) : Int) - 1)) = ((q.val % 2 ^ W.val : Nat) : Int) := by decide +kernel
attribute [local go_sem] Oper.semAt_some

theorem two_pow_ge : ∀ W : Nat, 8 ≤ W → 2 * W + 2 ≤ 2 ^ W := by
  intro W h
  induction W with
  | zero => omega
  | succ n ih =>
    by_cases h8 : n + 1 = 8
    · rw [h8]; decide
    · have := ih (by omega)
      rw [Nat.pow_succ]; omega

set_option maxRecDepth 100000 in
set_option maxHeartbeats 6400000 in
theorem shedges_walk (z nn : Int) (rl : Bool) (vals : List Bool) (lx ly : List Int) (vv vx vy : Value) (w : World) (hO : Ops w) (hz : -9223372036854775808 ≤ z ∧ z ≤ 9223372036854775807) (hnn : -9223372036854775808 ≤ nn ∧ nn ≤ 9223372036854775807)
    (hv : Bools (· < w.heap.size) w vv vals) (hx : Ints (· < w.heap.size) w vx lx) (hy : Ints (· < w.heap.size) w vy ly)
    (hlx : ∀ x ∈ lx, -9223372036854775808 ≤ x ∧ x ≤ 9223372036854775807) (hly : ∀ x ∈ ly, -9223372036854775808 ≤ x ∧ x ≤ 9223372036854775807) :
    Calls Tryd.prog 5 #[.agg #[.int .i64 z, vv, vx, vy, .int .i64 nn, .bool rl]] w fun e w' => e = .returned (.bool true) ∧ Below w.heap.size w w' := by
  have hb0 : Below w.heap.size w (w.alloc (.cells #[.int .i64 z, vv, vx, vy, .int .i64 nn, .bool rl] 27)) := (Below.refl _ _).alloc (Nat.le_refl _) _
  have hk0 : ∀ k, k < w.heap.size → k < (w.alloc (.cells #[.int .i64 z, vv, vx, vy, .int .i64 nn, .bool rl] 27)).heap.size ∧ (w.alloc (.cells #[.int .i64 z, vv, vx, vy, .int .i64 nn, .bool rl] 27)).heap[k]? = w.heap[k]? := fun k hk => ⟨by simp only [World.size_alloc]; omega, hb0.block k hk⟩
  have hmk := by_mk z nn rl vals lx ly vv vx vy (w.alloc (.cells #[.int .i64 z, vv, vx, vy, .int .i64 nn, .bool rl] 27)) hz hnn (hv.keep hk0) (hx.keep hk0) (hy.keep hk0) hlx ((z % 64).toNat + 1) _ rfl rfl
  have hW1 : 1 ≤ (z % 64).toNat + 1 := by omega
  have hW64 : (z % 64).toNat + 1 ≤ 64 := by omega
  generalize (z % 64).toNat + 1 = W at *
  have hqb : nn % (2 * (W : Int) + 2) = (((nn % (2 * (W : Int) + 2)).toNat : Nat) : Int) := by
    have := Int.emod_nonneg nn (show 2 * (W : Int) + 2 ≠ 0 by omega)
    omega
  have hq2 : (nn % (2 * (W : Int) + 2)).toNat < 2 * W + 2 := by
    have := Int.emod_lt_of_pos nn (show 0 < 2 * (W : Int) + 2 by omega)
    omega
  generalize (nn % (2 * (W : Int) + 2)).toNat = q at *
  obtain ⟨pv, cv, rfl, _, _, _, _⟩ := hv.op
  obtain ⟨px, cx, rfl, _, _, _, _⟩ := hx.op
  obtain ⟨py, cy, rfl, _, _, _, _⟩ := hy.op
  have HMK := hid hmk; have HO := hid hO; have HQB := hid hqb; have HQ2 := hid hq2
  have hc1 : (w.alloc (.cells #[.int .i64 z, .slice pv vals.length cv, .slice px lx.length cx, .slice py ly.length cy, .int .i64 nn, .bool rl] 27)).heap[w.heap.size]? = some (.cells #[.int .i64 z, .slice pv vals.length cv, .slice px lx.length cx, .slice py ly.length cy, .int .i64 nn, .bool rl] 27 (0, 0)) := by rw [heap_al, if_pos rfl]
  have HCB := hid hc1
  clear hmk hk0 hv hx hy hlx hly hO hqb hq2 hc1
  go_enter Tryd.func5, Tryd.ntmps5
  go_wp2_with fail
  have hwcs : (w.alloc (.cells #[.int .i64 z, .slice pv vals.length cv, .slice px lx.length cx, .slice py ly.length cy, .int .i64 nn, .bool rl] 27)).heap.size = w.heap.size + 1 := by simp only [World.size_alloc]
  generalize hwc : World.alloc w _ = wc at *
  clear hwc
  have HBC := hid hb0
  have HMC := hid HMK.out
  have HWS := hid hwcs
  clear hb0 HMK hwcs
  (with_reducible refine HMC.out.mono ?_)
  rintro e w3 ⟨bb, σ0, vin, vval, v1, v2, va, vb, xs, ys, rfl, hC, hxl, hyl, hxo, hyo, ix, iy, ia, ib, hbe, hbb, hlo, hyb⟩
  obtain ⟨pi, ci, rfl, _, _, _⟩ := hC.inp.opn (insM_len _)
  obtain ⟨pw, cw, rfl, _, _, _⟩ := hC.val.opn (valsM_len _ _)
  obtain ⟨p1, c1, rfl, _, _, _⟩ := ix.opn hxl
  obtain ⟨p2, c2, rfl, _, _, _⟩ := iy.opn hyl
  obtain ⟨p3, c3, rfl, _, _, _⟩ := ia.opn (n := W) (by rw [List.length_map]; exact hxl)
  obtain ⟨p4, c4, rfl, _, _, _⟩ := ib.opn (n := W) (by rw [List.length_map]; exact hyl)
  have HB3 := hid (show Bas wc bb (2 * W) _ _ (2 * W + 1) 1 w3 σ0 ⟨2 * W + 1, [[1]]⟩ from ⟨St.mk hC hbe hlo, Nat.le_refl _, Nat.le_refl _⟩)
  have HAL := hid (show (xs.map (litT σ0)).length = W by rw [List.length_map, hxl])
  have HBL := hid (show (ys.map (litT σ0)).length = W by rw [List.length_map, hyl])
  have HK3 := hid (((Kit.nil (bb := bb)).word iy (show LitsAre σ0 ⟨2 * W + 1, [[1]]⟩ ys _ from ⟨hyo, rfl⟩)).word ix (show LitsAre σ0 ⟨2 * W + 1, [[1]]⟩ xs _ from ⟨hxo, rfl⟩))
  have HIA3 := hid ia
  have HIB3 := hid ib
  have HYB0 := hid hyb
  clear hyb
  clear hC hbe hlo hxl hyl hxo hyo ix iy ia ib hbb
  generalize xs.map (litT σ0) = ax at *
  generalize ys.map (litT σ0) = ay at *
  have hwb3 := (HB3.out.st.fr.block w.heap.size (by rw [HWS.out]; omega)).trans HCB.out
  have d4 : (w3.alloc (.cells #[.pointer (some ⟨bb, 0, none⟩), .slice pi (2 * W) ci, .slice pw (2 * W) cw] 30)).cell? ⟨w.heap.size, 4, none⟩ = some (.int .i64 nn) := by rw [World.cell?_alloc_old _ _ _ (show w.heap.size ≠ w3.heap.size by have := HB3.out.st.fr.size; have := HWS.out; omega), cell_of_cells hwb3]; rfl
  clear hwb3
  go_wp2_with fail
  clear d4
  obtain ⟨hB4, hT4, hsz4, hf4⟩ := HB3.out.box _ rfl
  generalize hw4 : World.alloc w3 _ = w4 at *
  clear hw4
  have HB := hid hB4; have HT := hid hT4; have HK := hid (HK3.out.fr hf4); have HIA := hid (HIA3.out.fr hf4); have HIB := hid (HIB3.out.fr hf4)
  have HOC := hid (HO.out.below HBC.out HO.out.lt)
  have hq1 : W * W ≤ 4096 := by
    have := Nat.mul_le_mul hW64 hW64
    omega
  have HQ := hid hq1
  clear hB4 hT4 hsz4 hf4 HB3 HK3 HIA3 HIB3 HMC hq1
  generalize hF4 : (⟨2 * W + 1, [[1]]⟩ : Form) = F4 at *
  have hst : LawI wc w4 bb (2 * W) (2 * W + 1) 1 (.slice pi (2 * W) ci) (.slice pw (2 * W) cw) σ0 F4 W (shN ax ay 0) 0 w4 σ0 F4 (.slice none 0 0) (.slice none 0 0) [] 0 0 :=
    ⟨HB.out, Ext.refl HB.out.st.c.good 0 0, Fr.refl _ _, World.ownsRow_nil _ _ _ _, (fun j hj => by cases hj), World.ownsRow_nil _ _ _ _, (fun j hj => by cases hj), ⟨(fun x hx => by cases hx), rfl⟩, HB.out.st.fr.size, HB.out.st.c.inp, HB.out.st.c.val⟩
  have HST := hid hst
  clear hst hF4
  have hmod : ∀ w0, Calls Tryd.prog 16 #[.int .i64 nn, .int .i64 (2 * (W : Int) + 2)] w0 fun e w' => e = .returned (.int .i64 (q : Int)) ∧ w0 = w' := fun w0 => by
    have := mod_any nn (2 * (W : Int) + 2) w0 hnn (by omega)
    rw [HQB.out] at this; exact this
  have HM := hid hmod
  obtain ⟨n2, hn2⟩ : ∃ n2, q % 2 ^ W = n2 := ⟨_, rfl⟩
  have hval : valB ay = n2 := by rw [HYB0.out, valB_ofB, hn2]
  have hq2 := HQ2.out
  clear hmod
  (with_reducible refine (HM.out _).mono ?_)
  rintro e w' ⟨rfl, rfl⟩
  clear HM
  by_cases hW8 : W < 8
  · have d8 : decide ((W : Int) < 8) = true := by simp; omega
    obtain ⟨p, hp⟩ : ∃ p : Nat, 2 ^ W = p := ⟨_, rfl⟩
    have hp128 : p ≤ 128 := by rw [← hp]; exact Nat.le_trans (Nat.pow_le_pow_right (n := 2) (by omega) (show W ≤ 7 by omega)) (by decide)
    have hp1 : 1 ≤ p := by rw [← hp]; exact Nat.one_le_two_pow
    have hsl : ∀ i : Nat, i = W → wrap64 (2 ^ i) = (p : Int) := by
      rintro i rfl
      have e : ((2 : Int) ^ i) = (p : Int) := by rw [← hp]; simp
      rw [e]
      exact IntWalk.wrap64_in _ (by omega)
    have hbt : ∀ x : Int, x = (p : Int) - 1 → bits BinOp.and IntKind.i64 (q : Int) x = (n2 : Int) := by
      rintro x rfl
      have := and_small ⟨W, hW8⟩ ⟨q, by omega⟩
      simp only [hp] at this
      rw [show q % p = n2 by rw [← hp]; exact hn2] at this
      exact this
    have hn128 : n2 < 128 := by
      rw [← hn2]
      exact Nat.lt_of_lt_of_le (Nat.mod_lt _ (by rw [hp]; omega)) (by rw [hp]; exact hp128)
    have HN2 := hid hval
    clear hn2 hval hp
    go_wp2_with fail
    clear hsl hbt
    go_loopw [11, 12, 13] (fun vl vw i wr => ∃ (j : Nat) (σj : Nat → Bool) (Fj : Form) (zs : List Int), j ≤ 3 ∧ i = .int .i64 j ∧ LawI wc w4 bb (2 * W) (2 * W + 1) 1 (.slice pi (2 * W) ci) (.slice pw (2 * W) cw) σ0 F4 W (shN ax ay j) (j * W) wr σj Fj vl vw zs (j * (W * W)) (6 * (j * (W * W)))) (fun _ _ i _ => 3 - (intOf i).toNat)
    case atStart => exact ⟨0, σ0, F4, [], by omega, rfl, by simpa using HST.out⟩
    case round =>
      obtain ⟨j, σj, Fj, zs, hj, rfl, hI⟩ := hrel
      obtain ⟨wo, rfl⟩ : ∃ wo : World, wo = wr := ⟨_, rfl⟩
      obtain ⟨pl, cl, rfl⟩ := own_slice hI.ol
      obtain ⟨pt, ct, rfl⟩ := own_slice hI.ow
      by_cases hlt : j < 3
      · have hj3 : (j : Int) < 3 := by omega
        have hjw : j * W + W ≤ 192 := by
          have := Nat.mul_le_mul (show j + 1 ≤ 3 by omega) hW64
          rw [Nat.succ_mul] at this
          omega
        have hjv : j * (W * W) + W * W ≤ 12288 := by
          have := Nat.mul_le_mul (show j + 1 ≤ 3 by omega) HQ.out
          rw [Nat.succ_mul] at this
          omega
        have HLT := hid hlt; have HJW := hid hjw
        have hID := hI.same (show Below wo.heap.size wo wo.drew from ⟨rfl, rfl, rfl, Nat.le_refl _, fun _ _ => rfl⟩)
        have hoo := HOC.out.below hID.bas.st.fr HOC.out.lt
        have hS : (fun W1 : World => (BoxS w3.heap.size (.pointer (some ⟨bb, 0, none⟩)) (.slice pi (2 * W) ci) (.slice pw (2 * W) cw)) W1 ∧ W1.cell? ⟨0, j, none⟩ = some (.int .u8 (opAt j))) wo.drew := ⟨(HT.out.fr hID.fr).boxS, hoo.at' j hlt⟩
        have HC := hid (shift_c j hlt hID.bas (m := W) hW1 hW64 ((HK.out.fr hID.fr).w (.slice p1 W c1, xs, ax) (by simp)).1 ((HK.out.fr hID.fr).w (.slice p2 W c2, ys, ay) (by simp)).1 ((HK.out.w (.slice p1 W c1, xs, ax) (by simp)).2.ext hID.ext) ((HK.out.w (.slice p2 W c2, ys, ay) (by simp)).2.ext hID.ext) HAL.out HBL.out (by omega) (by omega))
        have HID := hid hID
        clear hI hoo hID hlt hjw hjv
        go_wp2_with fail
        have hFa : ∀ f, Fence.wide.fn f := fun _ => trivial
        refine (wpIn_wide (n := 9)).1 ?_
        refine wpIn_onlyN ?_
        refine wpIn_region_HJ (fun W1 : World => (BoxS w3.heap.size (.pointer (some ⟨bb, 0, none⟩)) (.slice pi (2 * W) ci) (.slice pw (2 * W) cw)) W1 ∧ W1.cell? ⟨0, j, none⟩ = some (.int .u8 (opAt j))) 12 (by kernel_rfl) ?_
        simp only [List.size_toArray, List.length_cons, List.length_nil, Nat.reduceAdd]
        refine wpHJ_pure (v := ?va0) 0 hFa rfl (by kernel_rfl) (fun _ _ _ h => h.elim) (Or.inl ⟨by rfl, ?ya0⟩) (.inr hS) ?ra0
        case ya0 => (intro w' _; go_simp; try rfl)
        simp only [Act.put, List.getElem_toArray, List.getElem_cons_succ, List.getElem_cons_zero, List.setIfInBounds_toArray, List.set_cons_zero, List.set_cons_succ]
        refine wpHJ_take (v := ?va1) 1 hFa rfl (by kernel_rfl) (fun _ _ _ h => h.elim) (Or.inl ⟨by rfl, ?ya1⟩) hS ?ra1
        case ya1 => (intro w' hS'; obtain ⟨⟨s1, s2, s3⟩, s4⟩ := hS'; go_simp; try rfl)
        simp only [Act.put, List.getElem_toArray, List.getElem_cons_succ, List.getElem_cons_zero, List.setIfInBounds_toArray, List.set_cons_zero, List.set_cons_succ]
        refine wpHJ_pure (v := ?va2) 2 hFa rfl (by kernel_rfl) (fun _ _ _ h => h.elim) (Or.inl ⟨by rfl, ?ya2⟩) (.inr hS) ?ra2
        case ya2 => (intro w' _; go_simp; try rfl)
        simp only [Act.put, List.getElem_toArray, List.getElem_cons_succ, List.getElem_cons_zero, List.setIfInBounds_toArray, List.set_cons_zero, List.set_cons_succ]
        refine wpHJ_pure (v := ?va3) 3 hFa rfl (by kernel_rfl) (fun _ _ _ h => h.elim) (Or.inl ⟨by rfl, ?ya3⟩) (.inr hS) ?ra3
        case ya3 => (intro w' _; go_simp; try rfl)
        simp only [Act.put, List.getElem_toArray, List.getElem_cons_succ, List.getElem_cons_zero, List.setIfInBounds_toArray, List.set_cons_zero, List.set_cons_succ]
        refine wpHJ_take (v := ?va4) 4 hFa rfl (by kernel_rfl) (fun _ _ _ h => h.elim) (Or.inl ⟨by rfl, ?ya4⟩) hS ?ra4
        case ya4 => (intro w' hS'; obtain ⟨⟨s1, s2, s3⟩, s4⟩ := hS'; go_simp; try rfl)
        simp only [Act.put, List.getElem_toArray, List.getElem_cons_succ, List.getElem_cons_zero, List.setIfInBounds_toArray, List.set_cons_zero, List.set_cons_succ]
        refine wpHJ_pure (v := ?va5) 5 hFa rfl (by kernel_rfl) (fun _ _ _ h => h.elim) (Or.inl ⟨by rfl, ?ya5⟩) (.inr hS) ?ra5
        case ya5 => (intro w' _; go_simp; try rfl)
        simp only [Act.put, List.getElem_toArray, List.getElem_cons_succ, List.getElem_cons_zero, List.setIfInBounds_toArray, List.set_cons_zero, List.set_cons_succ]
        refine wpHJ_pure (v := ?va6) 6 hFa rfl (by kernel_rfl) (fun _ _ _ h => h.elim) (Or.inl ⟨by rfl, ?ya6⟩) (.inr hS) ?ra6
        case ya6 => (intro w' _; go_simp; try rfl)
        simp only [Act.put, List.getElem_toArray, List.getElem_cons_succ, List.getElem_cons_zero, List.setIfInBounds_toArray, List.set_cons_zero, List.set_cons_succ]
        refine wpHJ_only 7 (by kernel_rfl) rfl ?_
        intro K hK
        go_simp
        (with_reducible refine (callsIn_wide.2 HC.out).mono ?_)
        rintro e w9 ⟨v9, zs9, σ9, F9, rfl, hB9, hi9, hl9, hf9, hx9⟩
        have hz9 : zs9.length = W := by rw [hl9.len, shB_len]; exact HAL.out
        obtain ⟨p9, c9, rfl, _, _, _⟩ := hi9.opn hz9
        have hI9 := HID.out.step hB9 hf9 hx9
        have hoo9 := HOC.out.below hB9.st.fr HOC.out.lt
        have hS9 : (fun W1 : World => (BoxS w3.heap.size (.pointer (some ⟨bb, 0, none⟩)) (.slice pi (2 * W) ci) (.slice pw (2 * W) cw)) W1 ∧ W1.cell? ⟨0, j, none⟩ = some (.int .u8 (opAt j))) w9 := ⟨(HT.out.fr hI9.fr).boxS, hoo9.at' j HLT.out⟩
        refine hK _ _ (.inr (.inr hS9)) ?_
        clear hK K
        refine wpHJ_pure (v := ?va8) 8 hFa rfl (by kernel_rfl) (fun _ _ _ h => h.elim) (Or.inl ⟨by rfl, ?ya8⟩) (.inr hS9) ?ra8
        case ya8 => (intro w' _; go_simp; try rfl)
        simp only [Act.put, List.getElem_toArray, List.getElem_cons_succ, List.getElem_cons_zero, List.setIfInBounds_toArray, List.set_cons_zero, List.set_cons_succ]
        refine wpHJ_pure (v := ?va9) 9 hFa rfl (by kernel_rfl) (fun _ _ _ h => h.elim) (Or.inl ⟨by rfl, ?ya9⟩) (.inr hS9) ?ra9
        case ya9 => (intro w' _; go_simp; try rfl)
        simp only [Act.put, List.getElem_toArray, List.getElem_cons_succ, List.getElem_cons_zero, List.setIfInBounds_toArray, List.set_cons_zero, List.set_cons_succ]
        refine wpHJ_pure (v := ?va10) 10 hFa rfl (by kernel_rfl) (fun _ _ _ h => h.elim) (Or.inl ⟨by rfl, ?ya10⟩) (.inr hS9) ?ra10
        case ya10 => (intro w' _; go_simp; try rfl)
        simp only [Act.put, List.getElem_toArray, List.getElem_cons_succ, List.getElem_cons_zero, List.setIfInBounds_toArray, List.set_cons_zero, List.set_cons_succ]
        refine wpHJ_pure (v := ?va11) 11 hFa rfl (by kernel_rfl) (fun _ _ _ h => h.elim) (Or.inl ⟨by rfl, ?ya11⟩) (.inr hS9) ?ra11
        case ya11 => (intro w' _; go_simp; try rfl)
        simp only [Act.put, List.getElem_toArray, List.getElem_cons_succ, List.getElem_cons_zero, List.setIfInBounds_toArray, List.set_cons_zero, List.set_cons_succ]
        refine wpHJ_only 12 (by kernel_rfl) rfl ?_
        intro K hK
        go_simp
        refine hK _ _ (.inl rfl) ?_
        clear hK K
        refine wpHJ_done (by kernel_rfl) ?_ _
        simp only [onlyN, Exit.then]
        clear hFa
        have HI9 := hid hI9; have HR9 := hid hi9; have HZ9 := hid hz9; have HL9 := hid hl9
        clear hI9 hi9 hB9 hl9 hf9 hx9 hz9 hoo9 hS9 hS HC HID
        go_wp2_with ((at_builtin; refine wpList_app _ rfl (.tmp 68) (.tmp 69) 23 rfl w4.heap.size 3 (.int .i64 0) 8 Tryd.underlying23 info_int rfl (.slice pl (j * W) cl) (j * W) _ rfl HI9.out.ol p9 W c9 (zs9.map (Value.int .i64)) rfl (by rw [List.length_map, HZ9.out]) HR9.out.row (ints_one _) (by have := HJW.out; omega) (by unfold maxLen; have := HJW.out; omega) HI9.out.fr.size ?_; intro v10 w10 ho10 hg10 ha10; rw [← List.map_append] at ho10; obtain ⟨p10, c10, rfl⟩ := own_slice ho10; have HO10 := hid ho10; have HG10 := hid hg10; have HA10 := hid ha10; clear ho10 hg10 ha10))
        obtain ⟨q1, q2, q3, q4, q5, q6⟩ := HI9.out.lits (zs2 := zs9) HG10.out HO10.out HA10.out
        have hTW0 : TwoL wc w4 bb (2 * W) (2 * W + 1 + (j * (W * W) + W * W)) (1 + (6 * (j * (W * W)) + 6 * (W * W))) (.slice pi (2 * W) ci) (.slice pw (2 * W) cw) σ9 F9 (j * W + W) (j * W) (zs ++ zs9) (shN ax ay j) w10 (.slice p10 (j * W + W) c10) (.slice pt (j * W) ct) :=
          ⟨q1, q2, HO10.out, q5, q4, q6, HI9.out.w3, HI9.out.ci, HI9.out.cv⟩
        have HTW0 := hid hTW0
        clear q1 q2 q3 q4 q5 q6 hTW0 HG10 HA10 HO10
        go_loopw [12, 16] (fun vq i wr => ∃ (k : Nat), k ≤ W ∧ i = .int .i64 k ∧ TwoL wc w4 bb (2 * W) (2 * W + 1 + (j * (W * W) + W * W)) (1 + (6 * (j * (W * W)) + 6 * (W * W))) (.slice pi (2 * W) ci) (.slice pw (2 * W) cw) σ9 F9 (j * W + W) (j * W + k) (zs ++ zs9) (shN ax ay j ++ (shL (decide (opAt j = 12)) n2 (fillB (opAt j) ax) ax).take k) wr (.slice p10 (j * W + W) c10) vq) (fun _ i _ => W - (intOf i).toNat)
        case atStart => exact ⟨0, by omega, rfl, by simpa using HTW0.out⟩
        case round =>
          obtain ⟨k, hk, rfl, hTW⟩ := hrel
          obtain ⟨wp, rfl⟩ : ∃ wp : World, wp = wr := ⟨_, rfl⟩
          obtain ⟨pq, cq, rfl⟩ := own_slice hTW.ow
          by_cases hlk : k < W
          · have hsn := shL_snoc (decide (opAt j = 12)) n2 (fillB (opAt j) ax) ax k (by rw [HAL.out]; exact hlk)
            have o4 := (HOC.out.below hTW.bas.st.fr HOC.out.lt).at' j HLT.out
            have HTW := hid hTW
            clear hTW
            have hj012 : j = 0 ∨ j = 1 ∨ j = 2 := by have := HLT.out; omega
            rcases hj012 with hj0 | hj1 | hj2
            · have hop : opAt j = 12 := by subst hj0; rfl
              clear hj0
              rw [hop] at o4
              have hU : (decide (opAt j = 12)) = true := by rw [hop]; rfl
              have hfi : fillB (opAt j) ax = false := by rw [hop]; rfl
              by_cases hqk : n2 ≤ k
              · obtain ⟨t, ht, htn⟩ : ∃ t : Nat, (k : Int) - (n2 : Int) = (t : Int) ∧ k - n2 = t := ⟨k - n2, by omega, rfl⟩
                have htl : t < ax.length := by have := HAL.out; omega
                have htm : t < W := by omega
                have d2 : decide ((t : Int) < (W : Int)) = true := by simp; omega
                rw [show (if (decide (opAt j = 12)) = true then (if n2 ≤ k then ax.getD (k - n2) (fillB (opAt j) ax) else fillB (opAt j) ax) else ax.getD (k + n2) (fillB (opAt j) ax)) = ax[t] by rw [if_pos hU, if_pos hqk, htn, getD_in _ _ _ htl]] at hsn
                obtain ⟨b1, o1, rfl, hR1, hcc1⟩ := (HIA.out.fr HTW.out.fr).row.atB (t) htl
                have e1 := hcc1 (t) htl
                generalize ax[t] = bt at *
                have HSN := hid hsn
                clear hsn hcc1 hR1 hU hfi htn hop
                go_wp2_with ((at_builtin; refine wpList_app _ rfl (.tmp 97) (.tmp 102) 22 rfl w4.heap.size 4 (.bool false) 1 Tryd.underlying22 info_bool rfl (.slice pq (j * W + k) cq) (j * W + k) _ rfl (HTW.out.ow.alloc _) (some ⟨wp.heap.size, 0, none⟩) 1 1 [.bool bt] rfl rfl (RowR.one _ _ _) (by simp [Value.oneCell']) (by have := HJW.out; omega) (by unfold maxLen; have := HJW.out; omega) (by rw [World.size_alloc]; exact Nat.le_trans HTW.out.fr.size (Nat.le_succ _)) ?_; intro vq2 wq2 hoq hgq haq; have HTN := hid (HTW.out.push hgq hoq haq); obtain ⟨pq2, cq2, rfl⟩ := own_slice hoq; clear hoq hgq haq))
                go_roundw
                case rel => exact ⟨k + 1, by omega, by go_num, by rw [HSN.out, ← List.append_assoc]; exact HTN.out⟩
                case measure => (simp [intOf] <;> omega)
              · have hneg : ((0 : Int) ≤ (k : Int) - (n2 : Int)) = False := by simp; omega
                have d3 : decide ((0 : Int) ≤ (k : Int) - (n2 : Int)) = false := by simp; omega
                rw [show (if (decide (opAt j = 12)) = true then (if n2 ≤ k then ax.getD (k - n2) (fillB (opAt j) ax) else fillB (opAt j) ax) else ax.getD (k + n2) (fillB (opAt j) ax)) = false by rw [if_pos hU, if_neg hqk, hfi]] at hsn
                have HSN := hid hsn
                clear hsn hU hfi hop
                go_wp2_with ((at_builtin; refine wpList_app _ rfl (.tmp 86) (.tmp 87) 22 rfl w4.heap.size 4 (.bool false) 1 Tryd.underlying22 info_bool rfl (.slice pq (j * W + k) cq) (j * W + k) _ rfl (HTW.out.ow.alloc _) (some ⟨wp.heap.size, 0, none⟩) 1 1 [.bool false] rfl rfl (RowR.one _ _ _) (by simp [Value.oneCell']) (by have := HJW.out; omega) (by unfold maxLen; have := HJW.out; omega) (by rw [World.size_alloc]; exact Nat.le_trans HTW.out.fr.size (Nat.le_succ _)) ?_; intro vq2 wq2 hoq hgq haq; have HTN := hid (HTW.out.push hgq hoq haq); obtain ⟨pq2, cq2, rfl⟩ := own_slice hoq; clear hoq hgq haq))
                go_roundw
                case rel => exact ⟨k + 1, by omega, by go_num, by rw [HSN.out, ← List.append_assoc]; exact HTN.out⟩
                case measure => (simp [intOf] <;> omega)
            · have hop : opAt j = 13 := by subst hj1; rfl
              clear hj1
              rw [hop] at o4
              have hU : ¬ (decide (opAt j = 12)) = true := by rw [hop]; decide
              obtain ⟨t, ht, htn⟩ : ∃ t : Nat, (k : Int) + (n2 : Int) = (t : Int) ∧ k + n2 = t := ⟨k + n2, by omega, rfl⟩
              by_cases htm : t < W
              · have htl : t < ax.length := by have := HAL.out; omega
                have d2 : decide ((t : Int) < (W : Int)) = true := by simp; omega
                rw [show (if (decide (opAt j = 12)) = true then (if n2 ≤ k then ax.getD (k - n2) (fillB (opAt j) ax) else fillB (opAt j) ax) else ax.getD (k + n2) (fillB (opAt j) ax)) = ax[t] by rw [if_neg hU, htn, getD_in _ _ _ htl]] at hsn
                obtain ⟨b1, o1, rfl, hR1, hcc1⟩ := (HIA.out.fr HTW.out.fr).row.atB (t) htl
                have e1 := hcc1 (t) htl
                generalize ax[t] = bt at *
                have HSN := hid hsn
                clear hsn hcc1 hR1 hU htn hop
                go_wp2_with ((at_builtin; refine wpList_app _ rfl (.tmp 97) (.tmp 102) 22 rfl w4.heap.size 4 (.bool false) 1 Tryd.underlying22 info_bool rfl (.slice pq (j * W + k) cq) (j * W + k) _ rfl (HTW.out.ow.alloc _) (some ⟨wp.heap.size, 0, none⟩) 1 1 [.bool bt] rfl rfl (RowR.one _ _ _) (by simp [Value.oneCell']) (by have := HJW.out; omega) (by unfold maxLen; have := HJW.out; omega) (by rw [World.size_alloc]; exact Nat.le_trans HTW.out.fr.size (Nat.le_succ _)) ?_; intro vq2 wq2 hoq hgq haq; have HTN := hid (HTW.out.push hgq hoq haq); obtain ⟨pq2, cq2, rfl⟩ := own_slice hoq; clear hoq hgq haq))
                go_roundw
                case rel => exact ⟨k + 1, by omega, by go_num, by rw [HSN.out, ← List.append_assoc]; exact HTN.out⟩
                case measure => (simp [intOf] <;> omega)
              · have d2 : decide ((t : Int) < (W : Int)) = false := by simp; omega
                rw [show (if (decide (opAt j = 12)) = true then (if n2 ≤ k then ax.getD (k - n2) (fillB (opAt j) ax) else fillB (opAt j) ax) else ax.getD (k + n2) (fillB (opAt j) ax)) = false by rw [if_neg hU, getD_out _ _ _ (by have := HAL.out; omega), hop]; rfl] at hsn
                have HSN := hid hsn
                clear hsn hU htn hop
                go_wp2_with ((at_builtin; refine wpList_app _ rfl (.tmp 86) (.tmp 87) 22 rfl w4.heap.size 4 (.bool false) 1 Tryd.underlying22 info_bool rfl (.slice pq (j * W + k) cq) (j * W + k) _ rfl (HTW.out.ow.alloc _) (some ⟨wp.heap.size, 0, none⟩) 1 1 [.bool false] rfl rfl (RowR.one _ _ _) (by simp [Value.oneCell']) (by have := HJW.out; omega) (by unfold maxLen; have := HJW.out; omega) (by rw [World.size_alloc]; exact Nat.le_trans HTW.out.fr.size (Nat.le_succ _)) ?_; intro vq2 wq2 hoq hgq haq; have HTN := hid (HTW.out.push hgq hoq haq); obtain ⟨pq2, cq2, rfl⟩ := own_slice hoq; clear hoq hgq haq))
                go_roundw
                case rel => exact ⟨k + 1, by omega, by go_num, by rw [HSN.out, ← List.append_assoc]; exact HTN.out⟩
                case measure => (simp [intOf] <;> omega)
            · have hop : opAt j = 14 := by subst hj2; rfl
              clear hj2
              rw [hop] at o4
              have hU : ¬ (decide (opAt j = 12)) = true := by rw [hop]; decide
              obtain ⟨t, ht, htn⟩ : ∃ t : Nat, (k : Int) + (n2 : Int) = (t : Int) ∧ k + n2 = t := ⟨k + n2, by omega, rfl⟩
              by_cases htm : t < W
              · have htl : t < ax.length := by have := HAL.out; omega
                have d2 : decide ((t : Int) < (W : Int)) = true := by simp; omega
                rw [show (if (decide (opAt j = 12)) = true then (if n2 ≤ k then ax.getD (k - n2) (fillB (opAt j) ax) else fillB (opAt j) ax) else ax.getD (k + n2) (fillB (opAt j) ax)) = ax[t] by rw [if_neg hU, htn, getD_in _ _ _ htl]] at hsn
                obtain ⟨b1, o1, rfl, hR1, hcc1⟩ := (HIA.out.fr HTW.out.fr).row.atB (t) htl
                have e1 := hcc1 (t) htl
                generalize ax[t] = bt at *
                have HSN := hid hsn
                clear hsn hcc1 hR1 hU htn hop
                go_wp2_with ((at_builtin; refine wpList_app _ rfl (.tmp 97) (.tmp 102) 22 rfl w4.heap.size 4 (.bool false) 1 Tryd.underlying22 info_bool rfl (.slice pq (j * W + k) cq) (j * W + k) _ rfl (HTW.out.ow.alloc _) (some ⟨wp.heap.size, 0, none⟩) 1 1 [.bool bt] rfl rfl (RowR.one _ _ _) (by simp [Value.oneCell']) (by have := HJW.out; omega) (by unfold maxLen; have := HJW.out; omega) (by rw [World.size_alloc]; exact Nat.le_trans HTW.out.fr.size (Nat.le_succ _)) ?_; intro vq2 wq2 hoq hgq haq; have HTN := hid (HTW.out.push hgq hoq haq); obtain ⟨pq2, cq2, rfl⟩ := own_slice hoq; clear hoq hgq haq))
                go_roundw
                case rel => exact ⟨k + 1, by omega, by go_num, by rw [HSN.out, ← List.append_assoc]; exact HTN.out⟩
                case measure => (simp [intOf] <;> omega)
              · have d2 : decide ((t : Int) < (W : Int)) = false := by simp; omega
                have hm1 : W - 1 < ax.length := by have := HAL.out; omega
                rw [show (if (decide (opAt j = 12)) = true then (if n2 ≤ k then ax.getD (k - n2) (fillB (opAt j) ax) else fillB (opAt j) ax) else ax.getD (k + n2) (fillB (opAt j) ax)) = ax[W - 1] by rw [if_neg hU, getD_out _ _ _ (by have := HAL.out; omega), hop]; unfold fillB; rw [HAL.out, getD_in _ _ _ hm1]; simp] at hsn
                obtain ⟨b1, o1, rfl, hR1, hcc1⟩ := (HIA.out.fr HTW.out.fr).row.atB (W - 1) hm1
                have e1 := hcc1 (W - 1) hm1
                generalize ax[W - 1] = bt at *
                have HSN := hid hsn
                clear hsn hcc1 hR1 hU htn hop
                go_wp2_with ((at_builtin; refine wpList_app _ rfl (.tmp 109) (.tmp 115) 22 rfl w4.heap.size 4 (.bool false) 1 Tryd.underlying22 info_bool rfl (.slice pq (j * W + k) cq) (j * W + k) _ rfl (HTW.out.ow.alloc _) (some ⟨wp.heap.size, 0, none⟩) 1 1 [.bool bt] rfl rfl (RowR.one _ _ _) (by simp [Value.oneCell']) (by have := HJW.out; omega) (by unfold maxLen; have := HJW.out; omega) (by rw [World.size_alloc]; exact Nat.le_trans HTW.out.fr.size (Nat.le_succ _)) ?_; intro vq2 wq2 hoq hgq haq; have HTN := hid (HTW.out.push hgq hoq haq); obtain ⟨pq2, cq2, rfl⟩ := own_slice hoq; clear hoq hgq haq))
                go_roundw
                case rel => exact ⟨k + 1, by omega, by go_num, by rw [HSN.out, ← List.append_assoc]; exact HTN.out⟩
                case measure => (simp [intOf] <;> omega)
          · obtain rfl : k = W := by omega
            have hlaw : LawI wc w4 bb (2 * k) (2 * k + 1) 1 (.slice pi (2 * k) ci) (.slice pw (2 * k) cw) σ0 F4 k (shN ax ay (j + 1)) (j * k + k) wp σ9 F9 (.slice p10 (j * k + k) c10) (.slice pq (j * k + k) cq) (zs ++ zs9) (j * (k * k) + k * k) (6 * (j * (k * k)) + 6 * (k * k)) := by
              have e : (shL (decide (opAt j = 12)) n2 (fillB (opAt j) ax) ax).take k = shB (opAt j) ax ay := by
                rw [List.take_of_length_le (by rw [shL_len, HAL.out]; exact Nat.le_refl _)]
                unfold shB
                rw [HN2.out]
              rw [e] at hTW
              rw [show shN ax ay (j + 1) = shN ax ay j ++ shB (opAt j) ax ay from rfl]
              exact ⟨hTW.bas, HI9.out.ext, hTW.fr, hTW.ol, hTW.al, hTW.ow, hTW.aw, ⟨fun x hx => (List.mem_append.1 hx).elim (HI9.out.lz.1 x) (HL9.out.1 x), by rw [List.map_append, HI9.out.lz.2, HL9.out.2]⟩, hTW.w3, hTW.ci, hTW.cv⟩
            have HFIN := hid hlaw
            clear hlaw hTW
            go_wp2
            go_roundw
            case rel => exact ⟨j + 1, σ9, F9, zs ++ zs9, by have := HLT.out; omega, by go_num, by
              have e := HFIN.out
              have e1 : (j + 1) * k = j * k + k := Nat.succ_mul j k
              have e2 : (j + 1) * (k * k) = j * (k * k) + k * k := Nat.succ_mul j (k * k)
              rw [e1, e2, Nat.mul_add]
              exact e⟩
            case measure => (have := HLT.out; simp [intOf] <;> omega)
      · obtain rfl : j = 3 := by omega
        have hbits := hI.lz
        have hzl : zs.length = 3 * W := by rw [hbits.len, shN_len, HAL.out]
        have hlit : Ints (Away bb wo) wo (.slice pl (3 * W) cl) zs := Sl.of_owns hI.ol (by omega) hI.al
        have hwant : Bools (Away bb wo) wo (.slice pt (3 * W) ct) (zs.map (litT σj)) := by rw [hbits.2]; exact Sl.of_owns hI.ow (by omega) hI.aw
        have HDE := hid (decided_any bb (2 * W) σj Fj _ _ _ _ zs _ _ wo hI.bas.st.c hlit hwant hbits.1 (fun k hk => hk.size) (fun k hk => hk.size) (by omega))
        have HFR := hid (below_tr' HBC.out hI.bas.st.fr (Nat.le_refl _))
        have hbx := (HT.out.fr hI.fr).boxS
        obtain ⟨b0, b1, b2⟩ := hbx
        clear hbits hzl hlit hwant hI
        go_wp2_with fail
        (with_reducible refine HDE.out.mono ?_)
        rintro e wa ⟨rfl, hba⟩
        have hbw := below_tr' HFR.out hba (Nat.le_refl _)
        have HAW2 := hid (awake18_any wa (HO.out.below hbw HO.out.lt))
        have HBW := hid hbw
        clear hba hbw b0 b1 b2 HDE
        go_wp2_with fail
        (with_reducible refine HAW2.out.mono ?_)
        rintro e wz ⟨rfl, hbz⟩
        have HBZ := hid (below_tr' HBW.out hbz (Nat.le_refl _))
        clear hbz
        go_wp2
        go_ret
        exact ⟨rfl, HBZ.out⟩
  · have d8 : decide ((W : Int) < 8) = false := by simp; omega
    have hqn : q = n2 := by
      rw [← hn2]
      refine (Nat.mod_eq_of_lt ?_).symm
      have h2 : 2 * W + 2 ≤ 2 ^ W := two_pow_ge W (by omega)
      omega
    subst hqn
    have HN2 := hid hval
    clear hn2 hval
    go_wp2_with fail
    go_loopw [11, 12, 13] (fun vl vw i wr => ∃ (j : Nat) (σj : Nat → Bool) (Fj : Form) (zs : List Int), j ≤ 3 ∧ i = .int .i64 j ∧ LawI wc w4 bb (2 * W) (2 * W + 1) 1 (.slice pi (2 * W) ci) (.slice pw (2 * W) cw) σ0 F4 W (shN ax ay j) (j * W) wr σj Fj vl vw zs (j * (W * W)) (6 * (j * (W * W)))) (fun _ _ i _ => 3 - (intOf i).toNat)
    case atStart => exact ⟨0, σ0, F4, [], by omega, rfl, by simpa using HST.out⟩
    case round =>
      obtain ⟨j, σj, Fj, zs, hj, rfl, hI⟩ := hrel
      obtain ⟨wo, rfl⟩ : ∃ wo : World, wo = wr := ⟨_, rfl⟩
      obtain ⟨pl, cl, rfl⟩ := own_slice hI.ol
      obtain ⟨pt, ct, rfl⟩ := own_slice hI.ow
      by_cases hlt : j < 3
      · have hj3 : (j : Int) < 3 := by omega
        have hjw : j * W + W ≤ 192 := by
          have := Nat.mul_le_mul (show j + 1 ≤ 3 by omega) hW64
          rw [Nat.succ_mul] at this
          omega
        have hjv : j * (W * W) + W * W ≤ 12288 := by
          have := Nat.mul_le_mul (show j + 1 ≤ 3 by omega) HQ.out
          rw [Nat.succ_mul] at this
          omega
        have HLT := hid hlt; have HJW := hid hjw
        have hID := hI.same (show Below wo.heap.size wo wo.drew from ⟨rfl, rfl, rfl, Nat.le_refl _, fun _ _ => rfl⟩)
        have hoo := HOC.out.below hID.bas.st.fr HOC.out.lt
        have hS : (fun W1 : World => (BoxS w3.heap.size (.pointer (some ⟨bb, 0, none⟩)) (.slice pi (2 * W) ci) (.slice pw (2 * W) cw)) W1 ∧ W1.cell? ⟨0, j, none⟩ = some (.int .u8 (opAt j))) wo.drew := ⟨(HT.out.fr hID.fr).boxS, hoo.at' j hlt⟩
        have HC := hid (shift_c j hlt hID.bas (m := W) hW1 hW64 ((HK.out.fr hID.fr).w (.slice p1 W c1, xs, ax) (by simp)).1 ((HK.out.fr hID.fr).w (.slice p2 W c2, ys, ay) (by simp)).1 ((HK.out.w (.slice p1 W c1, xs, ax) (by simp)).2.ext hID.ext) ((HK.out.w (.slice p2 W c2, ys, ay) (by simp)).2.ext hID.ext) HAL.out HBL.out (by omega) (by omega))
        have HID := hid hID
        clear hI hoo hID hlt hjw hjv
        go_wp2_with fail
        have hFa : ∀ f, Fence.wide.fn f := fun _ => trivial
        refine (wpIn_wide (n := 9)).1 ?_
        refine wpIn_onlyN ?_
        refine wpIn_region_HJ (fun W1 : World => (BoxS w3.heap.size (.pointer (some ⟨bb, 0, none⟩)) (.slice pi (2 * W) ci) (.slice pw (2 * W) cw)) W1 ∧ W1.cell? ⟨0, j, none⟩ = some (.int .u8 (opAt j))) 12 (by kernel_rfl) ?_
        simp only [List.size_toArray, List.length_cons, List.length_nil, Nat.reduceAdd]
        refine wpHJ_pure (v := ?vb0) 0 hFa rfl (by kernel_rfl) (fun _ _ _ h => h.elim) (Or.inl ⟨by rfl, ?yb0⟩) (.inr hS) ?rb0
        case yb0 => (intro w' _; go_simp; try rfl)
        simp only [Act.put, List.getElem_toArray, List.getElem_cons_succ, List.getElem_cons_zero, List.setIfInBounds_toArray, List.set_cons_zero, List.set_cons_succ]
        refine wpHJ_take (v := ?vb1) 1 hFa rfl (by kernel_rfl) (fun _ _ _ h => h.elim) (Or.inl ⟨by rfl, ?yb1⟩) hS ?rb1
        case yb1 => (intro w' hS'; obtain ⟨⟨s1, s2, s3⟩, s4⟩ := hS'; go_simp; try rfl)
        simp only [Act.put, List.getElem_toArray, List.getElem_cons_succ, List.getElem_cons_zero, List.setIfInBounds_toArray, List.set_cons_zero, List.set_cons_succ]
        refine wpHJ_pure (v := ?vb2) 2 hFa rfl (by kernel_rfl) (fun _ _ _ h => h.elim) (Or.inl ⟨by rfl, ?yb2⟩) (.inr hS) ?rb2
        case yb2 => (intro w' _; go_simp; try rfl)
        simp only [Act.put, List.getElem_toArray, List.getElem_cons_succ, List.getElem_cons_zero, List.setIfInBounds_toArray, List.set_cons_zero, List.set_cons_succ]
        refine wpHJ_pure (v := ?vb3) 3 hFa rfl (by kernel_rfl) (fun _ _ _ h => h.elim) (Or.inl ⟨by rfl, ?yb3⟩) (.inr hS) ?rb3
        case yb3 => (intro w' _; go_simp; try rfl)
        simp only [Act.put, List.getElem_toArray, List.getElem_cons_succ, List.getElem_cons_zero, List.setIfInBounds_toArray, List.set_cons_zero, List.set_cons_succ]
        refine wpHJ_take (v := ?vb4) 4 hFa rfl (by kernel_rfl) (fun _ _ _ h => h.elim) (Or.inl ⟨by rfl, ?yb4⟩) hS ?rb4
        case yb4 => (intro w' hS'; obtain ⟨⟨s1, s2, s3⟩, s4⟩ := hS'; go_simp; try rfl)
        simp only [Act.put, List.getElem_toArray, List.getElem_cons_succ, List.getElem_cons_zero, List.setIfInBounds_toArray, List.set_cons_zero, List.set_cons_succ]
        refine wpHJ_pure (v := ?vb5) 5 hFa rfl (by kernel_rfl) (fun _ _ _ h => h.elim) (Or.inl ⟨by rfl, ?yb5⟩) (.inr hS) ?rb5
        case yb5 => (intro w' _; go_simp; try rfl)
        simp only [Act.put, List.getElem_toArray, List.getElem_cons_succ, List.getElem_cons_zero, List.setIfInBounds_toArray, List.set_cons_zero, List.set_cons_succ]
        refine wpHJ_pure (v := ?vb6) 6 hFa rfl (by kernel_rfl) (fun _ _ _ h => h.elim) (Or.inl ⟨by rfl, ?yb6⟩) (.inr hS) ?rb6
        case yb6 => (intro w' _; go_simp; try rfl)
        simp only [Act.put, List.getElem_toArray, List.getElem_cons_succ, List.getElem_cons_zero, List.setIfInBounds_toArray, List.set_cons_zero, List.set_cons_succ]
        refine wpHJ_only 7 (by kernel_rfl) rfl ?_
        intro K hK
        go_simp
        (with_reducible refine (callsIn_wide.2 HC.out).mono ?_)
        rintro e w9 ⟨v9, zs9, σ9, F9, rfl, hB9, hi9, hl9, hf9, hx9⟩
        have hz9 : zs9.length = W := by rw [hl9.len, shB_len]; exact HAL.out
        obtain ⟨p9, c9, rfl, _, _, _⟩ := hi9.opn hz9
        have hI9 := HID.out.step hB9 hf9 hx9
        have hoo9 := HOC.out.below hB9.st.fr HOC.out.lt
        have hS9 : (fun W1 : World => (BoxS w3.heap.size (.pointer (some ⟨bb, 0, none⟩)) (.slice pi (2 * W) ci) (.slice pw (2 * W) cw)) W1 ∧ W1.cell? ⟨0, j, none⟩ = some (.int .u8 (opAt j))) w9 := ⟨(HT.out.fr hI9.fr).boxS, hoo9.at' j HLT.out⟩
        refine hK _ _ (.inr (.inr hS9)) ?_
        clear hK K
        refine wpHJ_pure (v := ?vb8) 8 hFa rfl (by kernel_rfl) (fun _ _ _ h => h.elim) (Or.inl ⟨by rfl, ?yb8⟩) (.inr hS9) ?rb8
        case yb8 => (intro w' _; go_simp; try rfl)
        simp only [Act.put, List.getElem_toArray, List.getElem_cons_succ, List.getElem_cons_zero, List.setIfInBounds_toArray, List.set_cons_zero, List.set_cons_succ]
        refine wpHJ_pure (v := ?vb9) 9 hFa rfl (by kernel_rfl) (fun _ _ _ h => h.elim) (Or.inl ⟨by rfl, ?yb9⟩) (.inr hS9) ?rb9
        case yb9 => (intro w' _; go_simp; try rfl)
        simp only [Act.put, List.getElem_toArray, List.getElem_cons_succ, List.getElem_cons_zero, List.setIfInBounds_toArray, List.set_cons_zero, List.set_cons_succ]
        refine wpHJ_pure (v := ?vb10) 10 hFa rfl (by kernel_rfl) (fun _ _ _ h => h.elim) (Or.inl ⟨by rfl, ?yb10⟩) (.inr hS9) ?rb10
        case yb10 => (intro w' _; go_simp; try rfl)
        simp only [Act.put, List.getElem_toArray, List.getElem_cons_succ, List.getElem_cons_zero, List.setIfInBounds_toArray, List.set_cons_zero, List.set_cons_succ]
        refine wpHJ_pure (v := ?vb11) 11 hFa rfl (by kernel_rfl) (fun _ _ _ h => h.elim) (Or.inl ⟨by rfl, ?yb11⟩) (.inr hS9) ?rb11
        case yb11 => (intro w' _; go_simp; try rfl)
        simp only [Act.put, List.getElem_toArray, List.getElem_cons_succ, List.getElem_cons_zero, List.setIfInBounds_toArray, List.set_cons_zero, List.set_cons_succ]
        refine wpHJ_only 12 (by kernel_rfl) rfl ?_
        intro K hK
        go_simp
        refine hK _ _ (.inl rfl) ?_
        clear hK K
        refine wpHJ_done (by kernel_rfl) ?_ _
        simp only [onlyN, Exit.then]
        clear hFa
        have HI9 := hid hI9; have HR9 := hid hi9; have HZ9 := hid hz9; have HL9 := hid hl9
        clear hI9 hi9 hB9 hl9 hf9 hx9 hz9 hoo9 hS9 hS HC HID
        go_wp2_with ((at_builtin; refine wpList_app _ rfl (.tmp 68) (.tmp 69) 23 rfl w4.heap.size 3 (.int .i64 0) 8 Tryd.underlying23 info_int rfl (.slice pl (j * W) cl) (j * W) _ rfl HI9.out.ol p9 W c9 (zs9.map (Value.int .i64)) rfl (by rw [List.length_map, HZ9.out]) HR9.out.row (ints_one _) (by have := HJW.out; omega) (by unfold maxLen; have := HJW.out; omega) HI9.out.fr.size ?_; intro v10 w10 ho10 hg10 ha10; rw [← List.map_append] at ho10; obtain ⟨p10, c10, rfl⟩ := own_slice ho10; have HO10 := hid ho10; have HG10 := hid hg10; have HA10 := hid ha10; clear ho10 hg10 ha10))
        obtain ⟨q1, q2, q3, q4, q5, q6⟩ := HI9.out.lits (zs2 := zs9) HG10.out HO10.out HA10.out
        have hTW0 : TwoL wc w4 bb (2 * W) (2 * W + 1 + (j * (W * W) + W * W)) (1 + (6 * (j * (W * W)) + 6 * (W * W))) (.slice pi (2 * W) ci) (.slice pw (2 * W) cw) σ9 F9 (j * W + W) (j * W) (zs ++ zs9) (shN ax ay j) w10 (.slice p10 (j * W + W) c10) (.slice pt (j * W) ct) :=
          ⟨q1, q2, HO10.out, q5, q4, q6, HI9.out.w3, HI9.out.ci, HI9.out.cv⟩
        have HTW0 := hid hTW0
        clear q1 q2 q3 q4 q5 q6 hTW0 HG10 HA10 HO10
        go_loopw [12, 16] (fun vq i wr => ∃ (k : Nat), k ≤ W ∧ i = .int .i64 k ∧ TwoL wc w4 bb (2 * W) (2 * W + 1 + (j * (W * W) + W * W)) (1 + (6 * (j * (W * W)) + 6 * (W * W))) (.slice pi (2 * W) ci) (.slice pw (2 * W) cw) σ9 F9 (j * W + W) (j * W + k) (zs ++ zs9) (shN ax ay j ++ (shL (decide (opAt j = 12)) q (fillB (opAt j) ax) ax).take k) wr (.slice p10 (j * W + W) c10) vq) (fun _ i _ => W - (intOf i).toNat)
        case atStart => exact ⟨0, by omega, rfl, by simpa using HTW0.out⟩
        case round =>
          obtain ⟨k, hk, rfl, hTW⟩ := hrel
          obtain ⟨wp, rfl⟩ : ∃ wp : World, wp = wr := ⟨_, rfl⟩
          obtain ⟨pq, cq, rfl⟩ := own_slice hTW.ow
          by_cases hlk : k < W
          · have hsn := shL_snoc (decide (opAt j = 12)) q (fillB (opAt j) ax) ax k (by rw [HAL.out]; exact hlk)
            have o4 := (HOC.out.below hTW.bas.st.fr HOC.out.lt).at' j HLT.out
            have HTW := hid hTW
            clear hTW
            have hj012 : j = 0 ∨ j = 1 ∨ j = 2 := by have := HLT.out; omega
            rcases hj012 with hj0 | hj1 | hj2
            · have hop : opAt j = 12 := by subst hj0; rfl
              clear hj0
              rw [hop] at o4
              have hU : (decide (opAt j = 12)) = true := by rw [hop]; rfl
              have hfi : fillB (opAt j) ax = false := by rw [hop]; rfl
              by_cases hqk : q ≤ k
              · obtain ⟨t, ht, htn⟩ : ∃ t : Nat, (k : Int) - (q : Int) = (t : Int) ∧ k - q = t := ⟨k - q, by omega, rfl⟩
                have htl : t < ax.length := by have := HAL.out; omega
                have htm : t < W := by omega
                have d2 : decide ((t : Int) < (W : Int)) = true := by simp; omega
                rw [show (if (decide (opAt j = 12)) = true then (if q ≤ k then ax.getD (k - q) (fillB (opAt j) ax) else fillB (opAt j) ax) else ax.getD (k + q) (fillB (opAt j) ax)) = ax[t] by rw [if_pos hU, if_pos hqk, htn, getD_in _ _ _ htl]] at hsn
                obtain ⟨b1, o1, rfl, hR1, hcc1⟩ := (HIA.out.fr HTW.out.fr).row.atB (t) htl
                have e1 := hcc1 (t) htl
                generalize ax[t] = bt at *
                have HSN := hid hsn
                clear hsn hcc1 hR1 hU hfi htn hop
                go_wp2_with ((at_builtin; refine wpList_app _ rfl (.tmp 97) (.tmp 102) 22 rfl w4.heap.size 4 (.bool false) 1 Tryd.underlying22 info_bool rfl (.slice pq (j * W + k) cq) (j * W + k) _ rfl (HTW.out.ow.alloc _) (some ⟨wp.heap.size, 0, none⟩) 1 1 [.bool bt] rfl rfl (RowR.one _ _ _) (by simp [Value.oneCell']) (by have := HJW.out; omega) (by unfold maxLen; have := HJW.out; omega) (by rw [World.size_alloc]; exact Nat.le_trans HTW.out.fr.size (Nat.le_succ _)) ?_; intro vq2 wq2 hoq hgq haq; have HTN := hid (HTW.out.push hgq hoq haq); obtain ⟨pq2, cq2, rfl⟩ := own_slice hoq; clear hoq hgq haq))
                go_roundw
                case rel => exact ⟨k + 1, by omega, by go_num, by rw [HSN.out, ← List.append_assoc]; exact HTN.out⟩
                case measure => (simp [intOf] <;> omega)
              · have hneg : ((0 : Int) ≤ (k : Int) - (q : Int)) = False := by simp; omega
                have d3 : decide ((0 : Int) ≤ (k : Int) - (q : Int)) = false := by simp; omega
                rw [show (if (decide (opAt j = 12)) = true then (if q ≤ k then ax.getD (k - q) (fillB (opAt j) ax) else fillB (opAt j) ax) else ax.getD (k + q) (fillB (opAt j) ax)) = false by rw [if_pos hU, if_neg hqk, hfi]] at hsn
                have HSN := hid hsn
                clear hsn hU hfi hop
                go_wp2_with ((at_builtin; refine wpList_app _ rfl (.tmp 86) (.tmp 87) 22 rfl w4.heap.size 4 (.bool false) 1 Tryd.underlying22 info_bool rfl (.slice pq (j * W + k) cq) (j * W + k) _ rfl (HTW.out.ow.alloc _) (some ⟨wp.heap.size, 0, none⟩) 1 1 [.bool false] rfl rfl (RowR.one _ _ _) (by simp [Value.oneCell']) (by have := HJW.out; omega) (by unfold maxLen; have := HJW.out; omega) (by rw [World.size_alloc]; exact Nat.le_trans HTW.out.fr.size (Nat.le_succ _)) ?_; intro vq2 wq2 hoq hgq haq; have HTN := hid (HTW.out.push hgq hoq haq); obtain ⟨pq2, cq2, rfl⟩ := own_slice hoq; clear hoq hgq haq))
                go_roundw
                case rel => exact ⟨k + 1, by omega, by go_num, by rw [HSN.out, ← List.append_assoc]; exact HTN.out⟩
                case measure => (simp [intOf] <;> omega)
            · have hop : opAt j = 13 := by subst hj1; rfl
              clear hj1
              rw [hop] at o4
              have hU : ¬ (decide (opAt j = 12)) = true := by rw [hop]; decide
              obtain ⟨t, ht, htn⟩ : ∃ t : Nat, (k : Int) + (q : Int) = (t : Int) ∧ k + q = t := ⟨k + q, by omega, rfl⟩
              by_cases htm : t < W
              · have htl : t < ax.length := by have := HAL.out; omega
                have d2 : decide ((t : Int) < (W : Int)) = true := by simp; omega
                rw [show (if (decide (opAt j = 12)) = true then (if q ≤ k then ax.getD (k - q) (fillB (opAt j) ax) else fillB (opAt j) ax) else ax.getD (k + q) (fillB (opAt j) ax)) = ax[t] by rw [if_neg hU, htn, getD_in _ _ _ htl]] at hsn
                obtain ⟨b1, o1, rfl, hR1, hcc1⟩ := (HIA.out.fr HTW.out.fr).row.atB (t) htl
                have e1 := hcc1 (t) htl
                generalize ax[t] = bt at *
                have HSN := hid hsn
                clear hsn hcc1 hR1 hU htn hop
                go_wp2_with ((at_builtin; refine wpList_app _ rfl (.tmp 97) (.tmp 102) 22 rfl w4.heap.size 4 (.bool false) 1 Tryd.underlying22 info_bool rfl (.slice pq (j * W + k) cq) (j * W + k) _ rfl (HTW.out.ow.alloc _) (some ⟨wp.heap.size, 0, none⟩) 1 1 [.bool bt] rfl rfl (RowR.one _ _ _) (by simp [Value.oneCell']) (by have := HJW.out; omega) (by unfold maxLen; have := HJW.out; omega) (by rw [World.size_alloc]; exact Nat.le_trans HTW.out.fr.size (Nat.le_succ _)) ?_; intro vq2 wq2 hoq hgq haq; have HTN := hid (HTW.out.push hgq hoq haq); obtain ⟨pq2, cq2, rfl⟩ := own_slice hoq; clear hoq hgq haq))
                go_roundw
                case rel => exact ⟨k + 1, by omega, by go_num, by rw [HSN.out, ← List.append_assoc]; exact HTN.out⟩
                case measure => (simp [intOf] <;> omega)
              · have d2 : decide ((t : Int) < (W : Int)) = false := by simp; omega
                rw [show (if (decide (opAt j = 12)) = true then (if q ≤ k then ax.getD (k - q) (fillB (opAt j) ax) else fillB (opAt j) ax) else ax.getD (k + q) (fillB (opAt j) ax)) = false by rw [if_neg hU, getD_out _ _ _ (by have := HAL.out; omega), hop]; rfl] at hsn
                have HSN := hid hsn
                clear hsn hU htn hop
                go_wp2_with ((at_builtin; refine wpList_app _ rfl (.tmp 86) (.tmp 87) 22 rfl w4.heap.size 4 (.bool false) 1 Tryd.underlying22 info_bool rfl (.slice pq (j * W + k) cq) (j * W + k) _ rfl (HTW.out.ow.alloc _) (some ⟨wp.heap.size, 0, none⟩) 1 1 [.bool false] rfl rfl (RowR.one _ _ _) (by simp [Value.oneCell']) (by have := HJW.out; omega) (by unfold maxLen; have := HJW.out; omega) (by rw [World.size_alloc]; exact Nat.le_trans HTW.out.fr.size (Nat.le_succ _)) ?_; intro vq2 wq2 hoq hgq haq; have HTN := hid (HTW.out.push hgq hoq haq); obtain ⟨pq2, cq2, rfl⟩ := own_slice hoq; clear hoq hgq haq))
                go_roundw
                case rel => exact ⟨k + 1, by omega, by go_num, by rw [HSN.out, ← List.append_assoc]; exact HTN.out⟩
                case measure => (simp [intOf] <;> omega)
            · have hop : opAt j = 14 := by subst hj2; rfl
              clear hj2
              rw [hop] at o4
              have hU : ¬ (decide (opAt j = 12)) = true := by rw [hop]; decide
              obtain ⟨t, ht, htn⟩ : ∃ t : Nat, (k : Int) + (q : Int) = (t : Int) ∧ k + q = t := ⟨k + q, by omega, rfl⟩
              by_cases htm : t < W
              · have htl : t < ax.length := by have := HAL.out; omega
                have d2 : decide ((t : Int) < (W : Int)) = true := by simp; omega
                rw [show (if (decide (opAt j = 12)) = true then (if q ≤ k then ax.getD (k - q) (fillB (opAt j) ax) else fillB (opAt j) ax) else ax.getD (k + q) (fillB (opAt j) ax)) = ax[t] by rw [if_neg hU, htn, getD_in _ _ _ htl]] at hsn
                obtain ⟨b1, o1, rfl, hR1, hcc1⟩ := (HIA.out.fr HTW.out.fr).row.atB (t) htl
                have e1 := hcc1 (t) htl
                generalize ax[t] = bt at *
                have HSN := hid hsn
                clear hsn hcc1 hR1 hU htn hop
                go_wp2_with ((at_builtin; refine wpList_app _ rfl (.tmp 97) (.tmp 102) 22 rfl w4.heap.size 4 (.bool false) 1 Tryd.underlying22 info_bool rfl (.slice pq (j * W + k) cq) (j * W + k) _ rfl (HTW.out.ow.alloc _) (some ⟨wp.heap.size, 0, none⟩) 1 1 [.bool bt] rfl rfl (RowR.one _ _ _) (by simp [Value.oneCell']) (by have := HJW.out; omega) (by unfold maxLen; have := HJW.out; omega) (by rw [World.size_alloc]; exact Nat.le_trans HTW.out.fr.size (Nat.le_succ _)) ?_; intro vq2 wq2 hoq hgq haq; have HTN := hid (HTW.out.push hgq hoq haq); obtain ⟨pq2, cq2, rfl⟩ := own_slice hoq; clear hoq hgq haq))
                go_roundw
                case rel => exact ⟨k + 1, by omega, by go_num, by rw [HSN.out, ← List.append_assoc]; exact HTN.out⟩
                case measure => (simp [intOf] <;> omega)
              · have d2 : decide ((t : Int) < (W : Int)) = false := by simp; omega
                have hm1 : W - 1 < ax.length := by have := HAL.out; omega
                rw [show (if (decide (opAt j = 12)) = true then (if q ≤ k then ax.getD (k - q) (fillB (opAt j) ax) else fillB (opAt j) ax) else ax.getD (k + q) (fillB (opAt j) ax)) = ax[W - 1] by rw [if_neg hU, getD_out _ _ _ (by have := HAL.out; omega), hop]; unfold fillB; rw [HAL.out, getD_in _ _ _ hm1]; simp] at hsn
                obtain ⟨b1, o1, rfl, hR1, hcc1⟩ := (HIA.out.fr HTW.out.fr).row.atB (W - 1) hm1
                have e1 := hcc1 (W - 1) hm1
                generalize ax[W - 1] = bt at *
                have HSN := hid hsn
                clear hsn hcc1 hR1 hU htn hop
                go_wp2_with ((at_builtin; refine wpList_app _ rfl (.tmp 109) (.tmp 115) 22 rfl w4.heap.size 4 (.bool false) 1 Tryd.underlying22 info_bool rfl (.slice pq (j * W + k) cq) (j * W + k) _ rfl (HTW.out.ow.alloc _) (some ⟨wp.heap.size, 0, none⟩) 1 1 [.bool bt] rfl rfl (RowR.one _ _ _) (by simp [Value.oneCell']) (by have := HJW.out; omega) (by unfold maxLen; have := HJW.out; omega) (by rw [World.size_alloc]; exact Nat.le_trans HTW.out.fr.size (Nat.le_succ _)) ?_; intro vq2 wq2 hoq hgq haq; have HTN := hid (HTW.out.push hgq hoq haq); obtain ⟨pq2, cq2, rfl⟩ := own_slice hoq; clear hoq hgq haq))
                go_roundw
                case rel => exact ⟨k + 1, by omega, by go_num, by rw [HSN.out, ← List.append_assoc]; exact HTN.out⟩
                case measure => (simp [intOf] <;> omega)
          · obtain rfl : k = W := by omega
            have hlaw : LawI wc w4 bb (2 * k) (2 * k + 1) 1 (.slice pi (2 * k) ci) (.slice pw (2 * k) cw) σ0 F4 k (shN ax ay (j + 1)) (j * k + k) wp σ9 F9 (.slice p10 (j * k + k) c10) (.slice pq (j * k + k) cq) (zs ++ zs9) (j * (k * k) + k * k) (6 * (j * (k * k)) + 6 * (k * k)) := by
              have e : (shL (decide (opAt j = 12)) q (fillB (opAt j) ax) ax).take k = shB (opAt j) ax ay := by
                rw [List.take_of_length_le (by rw [shL_len, HAL.out]; exact Nat.le_refl _)]
                unfold shB
                rw [HN2.out]
              rw [e] at hTW
              rw [show shN ax ay (j + 1) = shN ax ay j ++ shB (opAt j) ax ay from rfl]
              exact ⟨hTW.bas, HI9.out.ext, hTW.fr, hTW.ol, hTW.al, hTW.ow, hTW.aw, ⟨fun x hx => (List.mem_append.1 hx).elim (HI9.out.lz.1 x) (HL9.out.1 x), by rw [List.map_append, HI9.out.lz.2, HL9.out.2]⟩, hTW.w3, hTW.ci, hTW.cv⟩
            have HFIN := hid hlaw
            clear hlaw hTW
            go_wp2
            go_roundw
            case rel => exact ⟨j + 1, σ9, F9, zs ++ zs9, by have := HLT.out; omega, by go_num, by
              have e := HFIN.out
              have e1 : (j + 1) * k = j * k + k := Nat.succ_mul j k
              have e2 : (j + 1) * (k * k) = j * (k * k) + k * k := Nat.succ_mul j (k * k)
              rw [e1, e2, Nat.mul_add]
              exact e⟩
            case measure => (have := HLT.out; simp [intOf] <;> omega)
      · obtain rfl : j = 3 := by omega
        have hbits := hI.lz
        have hzl : zs.length = 3 * W := by rw [hbits.len, shN_len, HAL.out]
        have hlit : Ints (Away bb wo) wo (.slice pl (3 * W) cl) zs := Sl.of_owns hI.ol (by omega) hI.al
        have hwant : Bools (Away bb wo) wo (.slice pt (3 * W) ct) (zs.map (litT σj)) := by rw [hbits.2]; exact Sl.of_owns hI.ow (by omega) hI.aw
        have HDE := hid (decided_any bb (2 * W) σj Fj _ _ _ _ zs _ _ wo hI.bas.st.c hlit hwant hbits.1 (fun k hk => hk.size) (fun k hk => hk.size) (by omega))
        have HFR := hid (below_tr' HBC.out hI.bas.st.fr (Nat.le_refl _))
        have hbx := (HT.out.fr hI.fr).boxS
        obtain ⟨b0, b1, b2⟩ := hbx
        clear hbits hzl hlit hwant hI
        go_wp2_with fail
        (with_reducible refine HDE.out.mono ?_)
        rintro e wa ⟨rfl, hba⟩
        have hbw := below_tr' HFR.out hba (Nat.le_refl _)
        have HAW2 := hid (awake18_any wa (HO.out.below hbw HO.out.lt))
        have HBW := hid hbw
        clear hba hbw b0 b1 b2 HDE
        go_wp2_with fail
        (with_reducible refine HAW2.out.mono ?_)
        rintro e wz ⟨rfl, hbz⟩
        have HBZ := hid (below_tr' HBW.out hbz (Nat.le_refl _))
        clear hbz
        go_wp2
        go_ret
        exact ⟨rfl, HBZ.out⟩

end Go.Proofs.YtjcnhnifageikaaDoor
