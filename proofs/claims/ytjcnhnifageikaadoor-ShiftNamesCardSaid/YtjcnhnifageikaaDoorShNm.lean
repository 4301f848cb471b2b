/-
  The walk of ShiftNames.
-/
import Derived.Test.YtjcnhnifageikaaDoorShR
import Derived.Test.YtjcnhnifageikaaDoorShC
namespace Go.Proofs.YtjcnhnifageikaaDoor
set_option linter.unusedSimpArgs false
set_option linter.unusedVariables false
open Go.RowKit Go.Shelf
attribute [local go_sem] Oper.semAt_some

set_option maxRecDepth 100000 in
set_option maxHeartbeats 6400000 in
theorem names18_walk (w : World) (hO : Ops w) :
    Calls Tryd.prog 9 #[] w fun e w' => e = .returned (.bool true) ∧ Below w.heap.size w w' := by
  have H1 := hid (fun w1 (h : Ops w1) => show Calls Tryd.prog 24 #[.int .u64 5, .int .u64 0, .int .u64 5, .int .u64 5, .int .u64 5] w1 _ from shows18_c 5 0 (fun i => if i = 0 then 5 else if i = 1 then 5 else 5) (by omega) (by omega) (fun i hi => by have : i = 0 ∨ i = 1 ∨ i = 2 := by { omega }; rcases this with rfl | rfl | rfl <;> decide) w1 h)
  have H2 := hid (fun w1 (h : Ops w1) => show Calls Tryd.prog 24 #[.int .u64 3, .int .u64 7, .int .u64 0, .int .u64 0, .int .u64 0] w1 _ from shows18_c 3 7 (fun i => if i = 0 then 0 else if i = 1 then 0 else 0) (by omega) (by omega) (fun i hi => by have : i = 0 ∨ i = 1 ∨ i = 2 := by { omega }; rcases this with rfl | rfl | rfl <;> decide) w1 h)
  have H3 := hid (fun w1 (h : Ops w1) => show Calls Tryd.prog 24 #[.int .u64 4, .int .u64 3, .int .u64 0, .int .u64 0, .int .u64 7] w1 _ from shows18_c 4 3 (fun i => if i = 0 then 0 else if i = 1 then 0 else 7) (by omega) (by omega) (fun i hi => by have : i = 0 ∨ i = 1 ∨ i = 2 := by { omega }; rcases this with rfl | rfl | rfl <;> decide) w1 h)
  have HO := hid hO
  clear hO
  go_enter Tryd.func9, Tryd.ntmps9
  go_wp2_with fail
  (with_reducible refine (H1.out _ HO.out).mono ?_)
  rintro e w1 ⟨rfl, hb1⟩
  have HB1 := hid hb1
  clear hb1
  go_wp2_with fail
  (with_reducible refine (H2.out _ (HO.out.below HB1.out HO.out.lt)).mono ?_)
  rintro e w2 ⟨rfl, hb2⟩
  have HB2 := hid (below_tr HB1.out hb2)
  clear hb2
  go_wp2_with fail
  (with_reducible refine (H3.out _ (HO.out.below HB2.out HO.out.lt)).mono ?_)
  rintro e w3 ⟨rfl, hb3⟩
  have HB3 := hid (below_tr HB2.out hb3)
  clear hb3
  go_wp2_with fail
  go_loopw [0, 1] (fun v i wr => ∃ x : Nat, x ≤ 8 ∧ v = .bool false ∧ i = .int .u64 x ∧ Below w.heap.size w wr) (fun _ i _ => 8 - (intOf i).toNat)
  case atStart => exact ⟨0, by omega, rfl, rfl, HB3.out⟩
  case round =>
    obtain ⟨x, hx, rfl, rfl, hbx⟩ := hrel
    by_cases hlt : x < 8
    · have hxd : decide ((x : Int) < 8) = true := by simp; omega
      have HBX := hid hbx
      clear hbx
      go_wp2_with fail
      go_loopw [0, 2] (fun v i wr => ∃ y : Nat, y ≤ 8 ∧ v = .bool false ∧ i = .int .u64 y ∧ Below w.heap.size w wr) (fun _ i _ => 8 - (intOf i).toNat)
      case atStart => exact ⟨0, by omega, rfl, rfl, HBX.out⟩
      case round =>
        obtain ⟨y, hy, rfl, rfl, hby⟩ := hrel
        obtain ⟨wo, rfl⟩ : ∃ wo : World, wo = wr := ⟨_, rfl⟩
        by_cases hly : y < 8
        · have hyd : decide ((y : Int) < 8) = true := by simp; omega
          have HBY := hid hby
          have HLX := hid hlt; have HLY := hid hly
          clear hby
          obtain ⟨wn1, hwn1⟩ : ∃ W, World.alloc wo (.cells #[.int .u64 (x : Int), .int .u64 (y : Int)] 55) = W := ⟨_, rfl⟩
          have hbn1 : Below w.heap.size w wn1 := by rw [← hwn1]; exact HBY.out.alloc HBY.out.size _
          have hcn1 : wn1.heap[wo.heap.size]? = some (.cells #[.int .u64 (x : Int), .int .u64 (y : Int)] 55 (0, 0)) := by rw [← hwn1, heap_al, if_pos rfl]
          have HN1 := hid hbn1; have HC1 := hid hcn1; have HW1 := hid hwn1
          clear hbn1 hcn1 hwn1
          go_wp2_with fail
          rw [HW1.out]
          (with_reducible refine (apply_12 x y HLX.out HLY.out wo.heap.size wn1 HC1.out).mono ?_)
          rintro e wa1 ⟨rfl, hba1⟩
          have HA1 := hid (below_tr HN1.out hba1)
          clear hba1
          obtain ⟨wn2, hwn2⟩ : ∃ W, World.alloc wa1 (.cells #[.int .u64 (x : Int), .int .u64 (y : Int)] 55) = W := ⟨_, rfl⟩
          have hbn2 : Below w.heap.size w wn2 := by rw [← hwn2]; exact HA1.out.alloc HA1.out.size _
          have hcn2 : wn2.heap[wa1.heap.size]? = some (.cells #[.int .u64 (x : Int), .int .u64 (y : Int)] 55 (0, 0)) := by rw [← hwn2, heap_al, if_pos rfl]
          have HN2 := hid hbn2; have HC2 := hid hcn2; have HW2 := hid hwn2
          clear hbn2 hcn2 hwn2
          go_wp2_with fail
          rw [HW2.out]
          (with_reducible refine (apply_13 x y HLX.out HLY.out wa1.heap.size wn2 HC2.out).mono ?_)
          rintro e wa2 ⟨rfl, hba2⟩
          have HA2 := hid (below_tr HN2.out hba2)
          clear hba2
          obtain ⟨wn3, hwn3⟩ : ∃ W, World.alloc wa2 (.cells #[.int .u64 (x : Int), .int .u64 (y : Int)] 55) = W := ⟨_, rfl⟩
          have hbn3 : Below w.heap.size w wn3 := by rw [← hwn3]; exact HA2.out.alloc HA2.out.size _
          have hcn3 : wn3.heap[wa2.heap.size]? = some (.cells #[.int .u64 (x : Int), .int .u64 (y : Int)] 55 (0, 0)) := by rw [← hwn3, heap_al, if_pos rfl]
          have HN3 := hid hbn3; have HC3 := hid hcn3; have HW3 := hid hwn3
          clear hbn3 hcn3 hwn3
          go_wp2_with fail
          rw [HW3.out]
          (with_reducible refine (apply_14 x y HLX.out HLY.out wa2.heap.size wn3 HC3.out).mono ?_)
          rintro e wa3 ⟨rfl, hba3⟩
          have HA3 := hid (below_tr HN3.out hba3)
          clear hba3
          have HC := hid (shows18_c x y (fun i => valB (shB (opAt i) (ofB 3 x) (ofB 3 y))) HLX.out HLY.out (fun _ _ => rfl) wa3 (HO.out.below HA3.out HO.out.lt))
          have ho0 : opAt 0 = 12 := rfl
          have ho1 : opAt 1 = 13 := rfl
          have ho2 : opAt 2 = 14 := rfl
          simp only [ho0, ho1, ho2] at HC
          clear ho0 ho1 ho2
          generalize valB (shB 12 (ofB 3 x) (ofB 3 y)) = p0 at *
          generalize valB (shB 13 (ofB 3 x) (ofB 3 y)) = p1 at *
          generalize valB (shB 14 (ofB 3 x) (ofB 3 y)) = p2 at *
          go_wp2_with fail
          (with_reducible refine HC.out.mono ?_)
          rintro e w5 ⟨rfl, hb5⟩
          have HB5 := hid (below_tr HA3.out hb5)
          clear hb5
          go_wp2_with fail
          go_roundw
          case rel => exact ⟨y + 1, by omega, rfl, by go_num, HB5.out⟩
          case measure => (simp [intOf] <;> omega)
        · obtain rfl : y = 8 := by omega
          have HBY := hid hby
          clear hby
          go_wp2
          go_roundw
          case rel => exact ⟨x + 1, by omega, rfl, by go_num, HBY.out⟩
          case measure => (simp [intOf] <;> omega)
    · obtain rfl : x = 8 := by omega
      have HBX := hid hbx
      clear hbx
      go_wp2_with fail
      clear H1 H2 H3 HB1 HB2 HB3
      (with_reducible refine (small_any 1 1 _).mono ?_)
      rintro e w3 ⟨bb, vin, vval, rfl, hC, hb, hbb, hlo⟩
      obtain ⟨pi, ci, rfl, _, _, _⟩ := hC.inp.opn (insM_len _)
      obtain ⟨pv, cv, rfl, _, _, _⟩ := hC.val.opn (valsM_len _ _)
      generalize sigB (smallV 1 1) = σ0 at *
      have hB0 : Bas wr bb 6 _ _ 7 1 w3 σ0 ⟨7, [[1]]⟩ := ⟨St.mk hC hb hlo, Nat.le_refl _, Nat.le_refl _⟩
      obtain ⟨hB1, hT1, hs1, hf1⟩ := hB0.box _ rfl
      obtain ⟨w4, hw4⟩ : ∃ w4, w3.alloc (.cells #[.pointer (some ⟨bb, 0, none⟩), .slice pi 6 ci, .slice pv 6 cv] 30) = w4 := ⟨_, rfl⟩
      rw [hw4] at hB1 hT1 hs1 hf1
      have HB := hid hB1; have HT := hid hT1; have HS := hid hs1.symm
      have HW4 := hid hw4
      clear hC hb hbb hlo hB0 hB1 hT1 hs1 hf1 hw4
      obtain ⟨w5, hw5⟩ : ∃ w5, w4.alloc (.cells #[.int .i64 2] 3) = w5 := ⟨_, rfl⟩
      obtain ⟨hB1, hb1, hf1, hi1, hs1⟩ := HB.out.lay [2] 1 rfl (by omega) w5 hw5
      obtain ⟨w6, hw6⟩ : ∃ w6, w5.alloc (.cells #[.int .i64 5] 3) = w6 := ⟨_, rfl⟩
      obtain ⟨hB2, hb2, hf2, hi2, hs2⟩ := hB1.lay [5] 1 rfl (by omega) w6 hw6
      have HC := hid (shno_op bb (some ⟨w4.heap.size, 0, none⟩) (some ⟨w5.heap.size, 0, none⟩) 1 1 w6)
      have hT := (HT.out.fr hf1).fr hf2
      have HWa := hid hw5; have HWb := hid hw6; have HSa := hid hs1.symm
      clear HB HT hb1 hf1 hi1 hs1 hB1 hb2 hf2 hi2 hs2 hw5 hw6
      have HB := hid hB2; have HT := hid hT
      clear hB2 hT
      go_wp2_with fail
      rw [HW4.out]
      try rw [HS.out]
      rw [HWa.out]
      try rw [HSa.out]
      rw [HWb.out]
      (with_reducible refine HC.out.mono ?_)
      rintro e w' ⟨rfl, rfl⟩
      clear HC HWa HWb HSa HW4 HS
      obtain ⟨b0, b1, b2⟩ := HT.out.boxS
      obtain ⟨w7, hw7⟩ : ∃ w7, w6.alloc (.cells #[.int .i64 2, .int .i64 3, .int .i64 4] 3) = w7 := ⟨_, rfl⟩
      obtain ⟨hB1, hb1, hf1, hi1, hs1⟩ := HB.out.lay [2, 3, 4] 3 rfl (by omega) w7 hw7
      obtain ⟨w8, hw8⟩ : ∃ w8, w7.alloc (.cells #[.int .i64 5, .int .i64 6] 3) = w8 := ⟨_, rfl⟩
      obtain ⟨hB2, hb2, hf2, hi2, hs2⟩ := hB1.lay [5, 6] 2 rfl (by omega) w8 hw8
      have HC := hid (shno_32 bb (some ⟨w6.heap.size, 0, none⟩) (some ⟨w7.heap.size, 0, none⟩) 3 2 w8)
      have hT := (HT.out.fr hf1).fr hf2
      have HWa := hid hw7; have HWb := hid hw8; have HSa := hid hs1.symm
      clear HB HT hb1 hf1 hi1 hs1 hB1 hb2 hf2 hi2 hs2 hw7 hw8
      have HB := hid hB2; have HT := hid hT
      clear hB2 hT
      go_wp2_with fail
      rw [HWa.out]
      try rw [HSa.out]
      rw [HWb.out]
      (with_reducible refine HC.out.mono ?_)
      rintro e w' ⟨rfl, rfl⟩
      clear HC HWa HWb HSa b0 b1 b2
      obtain ⟨b0, b1, b2⟩ := HT.out.boxS
      obtain ⟨w9, hw9⟩ : ∃ w9, w8.alloc (.cells #[.int .i64 2] 3) = w9 := ⟨_, rfl⟩
      obtain ⟨hB1, hb1, hf1, hi1, hs1⟩ := HB.out.lay [2] 1 rfl (by omega) w9 hw9
      obtain ⟨w10, hw10⟩ : ∃ w10, w9.alloc (.cells #[.int .i64 9] 3) = w10 := ⟨_, rfl⟩
      obtain ⟨hB2, hb2, hf2, hi2, hs2⟩ := hB1.lay [9] 1 rfl (by omega) w10 hw10
      have HC := hid (shno_lit bb ⟨7, [[1]]⟩ 2 9 _ _ w10 hB2.st.c.b (hi1.fr hf2) hi2 (by omega) (by omega) (.inr (by decide)))
      have hT := (HT.out.fr hf1).fr hf2
      have HWa := hid hw9; have HWb := hid hw10; have HSa := hid hs1.symm
      clear HB HT hb1 hf1 hi1 hs1 hB1 hb2 hf2 hi2 hs2 hw9 hw10
      have HB := hid hB2; have HT := hid hT
      clear hB2 hT
      go_wp2_with fail
      rw [HWa.out]
      try rw [HSa.out]
      rw [HWb.out]
      (with_reducible refine HC.out.mono ?_)
      rintro e w11 ⟨rfl, hBi, hf⟩
      have hB := HB.out.same hf hBi
      have hT := HT.out.fr hf
      have hS := hT.boxS
      clear HB HT HC HWa HWb HSa b0 b1 b2
      have HB := hid hB; have HT := hid hT
      clear hB hT hf hBi
      obtain ⟨b0, b1, b2⟩ := hS
      go_wp2_with fail
      (with_reducible refine (shno_0 bb _).mono ?_)
      rintro e w' ⟨rfl, rfl⟩
      have hmk : ∀ w : World, (Instr.makeSlice 23 (.int .i64 65) (.int .i64 65)).run Tryd.prog w = .ok (.slice (some ⟨w.heap.size, 0, none⟩) 65 65) (w.alloc (.cells (Array.replicate 65 (.int .i64 0)) 3)) := fun w =>
        make_run (P := Tryd.prog) Tryd.underlying23 info_int rfl 65 (by omega) (by omega) w
      have hlt11 := HT.out.lt
      go_wp2_with fail
      have hS : (BoxS w3.heap.size (.pointer (some ⟨bb, 0, none⟩)) (.slice pi 6 ci) (.slice pv 6 cv)) w11.drew := HT.out.boxS
      have hFa : ∀ f, Fence.wide.fn f := fun _ => trivial
      refine (wpIn_wide (n := 9)).1 ?_
      refine wpIn_onlyN ?_
      refine wpIn_region_HJ (BoxS w3.heap.size (.pointer (some ⟨bb, 0, none⟩)) (.slice pi 6 ci) (.slice pv 6 cv)) 9 (by kernel_rfl) ?_
      simp only [List.size_toArray, List.length_cons, List.length_nil, Nat.reduceAdd]
      refine wpHJ_pure (v := ?vm0_1) 0 hFa rfl (by kernel_rfl) (fun _ _ _ h => h.elim) (Or.inl ⟨by rfl, ?ym0_1⟩) (.inr hS) ?rm0_1
      case ym0_1 => (intro w' _; go_simp; try rfl)
      simp only [Act.put, List.getElem_toArray, List.getElem_cons_succ, List.getElem_cons_zero, List.setIfInBounds_toArray, List.set_cons_zero, List.set_cons_succ]
      refine wpHJ_take (v := ?vm1_2) 1 hFa rfl (by kernel_rfl) (fun _ _ _ h => h.elim) (Or.inl ⟨by rfl, ?ym1_2⟩) hS ?rm1_2
      case ym1_2 => (intro w' hS'; obtain ⟨s1, s2, s3⟩ := hS'; go_simp; try rfl)
      simp only [Act.put, List.getElem_toArray, List.getElem_cons_succ, List.getElem_cons_zero, List.setIfInBounds_toArray, List.set_cons_zero, List.set_cons_succ]
      refine wpHJ_two 2 3 (by kernel_rfl) rfl rfl ?_ ?_
      · intro K hK
        go_simp
        obtain ⟨w12, hw12⟩ : ∃ w12, (World.alloc w11 (.cells (Array.replicate 65 (.int .i64 0)) 3)).drew = w12 := ⟨_, rfl⟩
        rw [hw12]
        have hb12 : Below w11.heap.size w11 w12 := by rw [← hw12]; exact ((Below.refl _ _).alloc (Nat.le_refl _) _).drew
        have hS12 := HT.out.boxS.below hb12 hlt11
        have hlt12 : w3.heap.size < w12.heap.size := Nat.lt_of_lt_of_le hlt11 hb12.size
        refine hK _ _ (.inr (.inr hS12)) ?_
        clear hK K
        refine wpHJ_only 3 (by kernel_rfl) rfl ?_
        intro K hK
        go_simp
        obtain ⟨w13, hw13⟩ : ∃ w13, World.alloc w12 (.cells (Array.replicate 65 (.int .i64 0)) 3) = w13 := ⟨_, rfl⟩
        rw [hw13]
        have hb13 : Below w12.heap.size w12 w13 := by rw [← hw13]; exact (Below.refl _ _).alloc (Nat.le_refl _) _
        have hS13 := hS12.below hb13 hlt12
        have hlt13 : w3.heap.size < w13.heap.size := Nat.lt_of_lt_of_le hlt12 hb13.size
        refine hK _ _ (.inr (.inr hS13)) ?_
        clear hK K
        refine wpHJ_only 4 (by kernel_rfl) rfl ?_
        intro K hK
        go_simp
        (with_reducible refine (callsIn_wide.2 (shno_65 bb _ _ _ _ _)).mono ?_)
        rintro e w' ⟨rfl, rfl⟩
        refine hK _ _ (.inr (.inr hS13)) ?_
        clear hK K
        refine wpHJ_pure (v := ?vm5_7) 5 hFa rfl (by kernel_rfl) (fun _ _ _ h => h.elim) (Or.inl ⟨by rfl, ?ym5_7⟩) (.inr hS13) ?rm5_7
        case ym5_7 => (intro w' _; go_simp; try rfl)
        simp only [Act.put, List.getElem_toArray, List.getElem_cons_succ, List.getElem_cons_zero, List.setIfInBounds_toArray, List.set_cons_zero, List.set_cons_succ]
        refine wpHJ_pure (v := ?vm6_8) 6 hFa rfl (by kernel_rfl) (fun _ _ _ h => h.elim) (Or.inl ⟨by rfl, ?ym6_8⟩) (.inr hS13) ?rm6_8
        case ym6_8 => (intro w' _; go_simp; try rfl)
        simp only [Act.put, List.getElem_toArray, List.getElem_cons_succ, List.getElem_cons_zero, List.setIfInBounds_toArray, List.set_cons_zero, List.set_cons_succ]
        refine wpHJ_pure (v := ?vm7_9) 7 hFa rfl (by kernel_rfl) (fun _ _ _ h => h.elim) (Or.inl ⟨by rfl, ?ym7_9⟩) (.inr hS13) ?rm7_9
        case ym7_9 => (intro w' _; go_simp; try rfl)
        simp only [Act.put, List.getElem_toArray, List.getElem_cons_succ, List.getElem_cons_zero, List.setIfInBounds_toArray, List.set_cons_zero, List.set_cons_succ]
        refine wpHJ_pure (v := ?vm8_10) 8 hFa rfl (by kernel_rfl) (fun _ _ _ h => h.elim) (Or.inl ⟨by rfl, ?ym8_10⟩) (.inr hS13) ?rm8_10
        case ym8_10 => (intro w' _; go_simp; try rfl)
        simp only [Act.put, List.getElem_toArray, List.getElem_cons_succ, List.getElem_cons_zero, List.setIfInBounds_toArray, List.set_cons_zero, List.set_cons_succ]
        refine wpHJ_only 9 (by kernel_rfl) rfl ?_
        intro K hK
        go_simp
        refine hK _ _ (.inl rfl) ?_
        clear hK K
        refine wpHJ_done (by kernel_rfl) ?_ _
        simp only [onlyN, Exit.then]
        clear hFa
        have hb9 : Below w11.heap.size w11 w13 := below_tr' hb12 hb13 (Nat.le_refl _)
        have hB := HB.out.fr hb9
        have HBF := hid (below_tr HBX.out hB.st.fr)
        clear HB HT hB hb9 hb12 hb13 hS12 hS13 hS hlt11 hlt12 hlt13 hw12 hw13 hmk
        go_wp2_with fail
        (with_reducible refine (shno_nil _).mono ?_)
        rintro e w' ⟨rfl, rfl⟩
        have HA := hid (awake18_any w13 (HO.out.below HBF.out HO.out.lt))
        go_wp2_with fail
        (with_reducible refine HA.out.mono ?_)
        rintro e wz ⟨rfl, hbz⟩
        have HZ := hid (below_tr HBF.out hbz)
        clear hbz
        go_wp2
        go_ret
        exact ⟨rfl, HZ.out⟩
      · intro K hK
        go_simp
        obtain ⟨w12, hw12⟩ : ∃ w12, (World.alloc w11 (.cells (Array.replicate 65 (.int .i64 0)) 3)).drew = w12 := ⟨_, rfl⟩
        rw [hw12]
        have hb12 : Below w11.heap.size w11 w12 := by rw [← hw12]; exact ((Below.refl _ _).alloc (Nat.le_refl _) _).drew
        have hS12 := HT.out.boxS.below hb12 hlt11
        have hlt12 : w3.heap.size < w12.heap.size := Nat.lt_of_lt_of_le hlt11 hb12.size
        refine hK _ _ (.inr (.inr hS12)) ?_
        clear hK K
        refine wpHJ_only 2 (by kernel_rfl) rfl ?_
        intro K hK
        go_simp
        obtain ⟨w13, hw13⟩ : ∃ w13, World.alloc w12 (.cells (Array.replicate 65 (.int .i64 0)) 3) = w13 := ⟨_, rfl⟩
        rw [hw13]
        have hb13 : Below w12.heap.size w12 w13 := by rw [← hw13]; exact (Below.refl _ _).alloc (Nat.le_refl _) _
        have hS13 := hS12.below hb13 hlt12
        have hlt13 : w3.heap.size < w13.heap.size := Nat.lt_of_lt_of_le hlt12 hb13.size
        refine hK _ _ (.inr (.inr hS13)) ?_
        clear hK K
        refine wpHJ_only 4 (by kernel_rfl) rfl ?_
        intro K hK
        go_simp
        (with_reducible refine (callsIn_wide.2 (shno_65 bb _ _ _ _ _)).mono ?_)
        rintro e w' ⟨rfl, rfl⟩
        refine hK _ _ (.inr (.inr hS13)) ?_
        clear hK K
        refine wpHJ_pure (v := ?vm5_14) 5 hFa rfl (by kernel_rfl) (fun _ _ _ h => h.elim) (Or.inl ⟨by rfl, ?ym5_14⟩) (.inr hS13) ?rm5_14
        case ym5_14 => (intro w' _; go_simp; try rfl)
        simp only [Act.put, List.getElem_toArray, List.getElem_cons_succ, List.getElem_cons_zero, List.setIfInBounds_toArray, List.set_cons_zero, List.set_cons_succ]
        refine wpHJ_pure (v := ?vm6_15) 6 hFa rfl (by kernel_rfl) (fun _ _ _ h => h.elim) (Or.inl ⟨by rfl, ?ym6_15⟩) (.inr hS13) ?rm6_15
        case ym6_15 => (intro w' _; go_simp; try rfl)
        simp only [Act.put, List.getElem_toArray, List.getElem_cons_succ, List.getElem_cons_zero, List.setIfInBounds_toArray, List.set_cons_zero, List.set_cons_succ]
        refine wpHJ_pure (v := ?vm7_16) 7 hFa rfl (by kernel_rfl) (fun _ _ _ h => h.elim) (Or.inl ⟨by rfl, ?ym7_16⟩) (.inr hS13) ?rm7_16
        case ym7_16 => (intro w' _; go_simp; try rfl)
        simp only [Act.put, List.getElem_toArray, List.getElem_cons_succ, List.getElem_cons_zero, List.setIfInBounds_toArray, List.set_cons_zero, List.set_cons_succ]
        refine wpHJ_pure (v := ?vm8_17) 8 hFa rfl (by kernel_rfl) (fun _ _ _ h => h.elim) (Or.inl ⟨by rfl, ?ym8_17⟩) (.inr hS13) ?rm8_17
        case ym8_17 => (intro w' _; go_simp; try rfl)
        simp only [Act.put, List.getElem_toArray, List.getElem_cons_succ, List.getElem_cons_zero, List.setIfInBounds_toArray, List.set_cons_zero, List.set_cons_succ]
        refine wpHJ_only 9 (by kernel_rfl) rfl ?_
        intro K hK
        go_simp
        refine hK _ _ (.inl rfl) ?_
        clear hK K
        refine wpHJ_done (by kernel_rfl) ?_ _
        simp only [onlyN, Exit.then]
        clear hFa
        have hb9 : Below w11.heap.size w11 w13 := below_tr' hb12 hb13 (Nat.le_refl _)
        have hB := HB.out.fr hb9
        have HBF := hid (below_tr HBX.out hB.st.fr)
        clear HB HT hB hb9 hb12 hb13 hS12 hS13 hS hlt11 hlt12 hlt13 hw12 hw13 hmk
        go_wp2_with fail
        (with_reducible refine (shno_nil _).mono ?_)
        rintro e w' ⟨rfl, rfl⟩
        have HA := hid (awake18_any w13 (HO.out.below HBF.out HO.out.lt))
        go_wp2_with fail
        (with_reducible refine HA.out.mono ?_)
        rintro e wz ⟨rfl, hbz⟩
        have HZ := hid (below_tr HBF.out hbz)
        clear hbz
        go_wp2
        go_ret
        exact ⟨rfl, HZ.out⟩

end Go.Proofs.YtjcnhnifageikaaDoor
