/-
  The walk of MuldivNames.
-/
import Derived.Test.YtngimdbjcelkeaaMNo
namespace Go.Proofs.Ytngimdbjcelkeaa
set_option linter.unusedSimpArgs false
set_option linter.unusedVariables false
open Go.RowKit Go.Shelf
attribute [local go_sem] Oper.semAt_some

set_option maxRecDepth 100000 in
set_option maxHeartbeats 6400000 in
theorem names17_walk (w : World) :
    Calls Try.prog 9 #[] w fun e w' => e = .returned (.bool true) ∧ Below w.heap.size w w' := by
  go_enter Try.func9, Try.ntmps9
  go_wp2_with fail
  go_loopw [0, 1] (fun v i wr => ∃ x : Nat, x ≤ 8 ∧ v = .bool false ∧ i = .int .u64 x ∧ Below w.heap.size w wr) (fun _ i _ => 8 - (intOf i).toNat)
  case atStart => exact ⟨0, by omega, rfl, rfl, Below.refl _ _⟩
  case round =>
    obtain ⟨x, hx, rfl, rfl, hbx⟩ := hrel
    by_cases hlt : x < 8
    · have hxd : decide ((x : Int) < 8) = true := by simp; omega
      have HBX := hid hbx
      clear hbx
      go_wp2_with fail
      go_loopw [0, 2] (fun v i wr => ∃ y : Nat, y ≤ 8 ∧ v = .bool false ∧ i = .int .u64 y ∧ Below w.heap.size w wr) (fun _ i _ => 8 - (intOf i).toNat)
      case atStart => exact ⟨0, by omega, rfl, rfl, HBX.out⟩
      case round =>
        obtain ⟨y, hy, rfl, rfl, hby⟩ := hrel
        obtain ⟨wo, rfl⟩ : ∃ wo : World, wo = wr := ⟨_, rfl⟩
        by_cases hly : y < 8
        · have hyd : decide ((y : Int) < 8) = true := by simp; omega
          have HBY := hid hby
          have hm49 : x * y ≤ 7 * 7 := Nat.mul_le_mul (by omega) (by omega)
          obtain ⟨m, hm⟩ : ∃ m : Nat, x * y = m := ⟨_, rfl⟩
          obtain ⟨p, hp⟩ : ∃ p : Nat, m % 8 = p := ⟨_, rfl⟩
          have hmi : (x : Int) * (y : Int) = (m : Int) := by rw [← hm]; simp
          have hm50 : m < 50 := by omega
          have hpi : (m : Int) % 8 = (p : Int) := by omega
          have hpt : (m : Int).tmod 8 = (p : Int) := by rw [Int.tmod_eq_emod_of_nonneg (by omega)]; exact hpi
          have hp8 : p < 8 := by omega
          have hpp : p = x * y % 8 := by rw [hm, hp]
          clear hby hm49
          by_cases h0 : y = 0
          · have h0d : decide ((0 : Int) < (y : Int)) = false := by simp; omega
            have h0n : (0 < y) = False := by simp; omega
            have HC : Hid (∀ w', Calls Try.prog 58 #[.int .u64 (x : Int), .int .u64 (y : Int), .int .u64 (p : Int), .int .u64 7, .int .u64 (x : Int)] w' fun e w'' => e = .returned (.bool true) ∧ Below w'.heap.size w' w'') := hid (fun w' => shows17_c x y p 7 x (by omega) (by omega) hpp (by subst h0; rfl) (by subst h0; simp) w')
            have H0 := hid h0
            clear h0 hm hp hpp
            go_wp2_with fail
            (with_reducible refine (HC.out _).mono ?_)
            rintro e w5 ⟨rfl, hb5⟩
            have HB5 := hid (below_tr HBY.out hb5)
            clear hb5
            go_wp2_with fail
            go_roundw
            case rel => exact ⟨y + 1, by omega, rfl, by go_num, HB5.out⟩
            case measure => (simp [intOf] <;> omega)
          · have h0d : decide ((0 : Int) < (y : Int)) = true := by simp; omega
            obtain ⟨q, hq⟩ : ∃ q : Nat, x / y = q := ⟨_, rfl⟩
            obtain ⟨r, hr⟩ : ∃ r : Nat, x % y = r := ⟨_, rfl⟩
            have HC := hid (fun w' => shows17_c x y p q r (by omega) (by omega) hpp (by rw [← hq]; exact (if_neg h0).symm) hr.symm w')
            have hqi : (x : Int) / (y : Int) = (q : Int) := by rw [← hq]; simp
            have hqt : (x : Int).tdiv (y : Int) = (q : Int) := by rw [Int.tdiv_eq_ediv_of_nonneg (by omega)]; exact hqi
            have hri : (x : Int) % (y : Int) = (r : Int) := by rw [← hr]; simp
            have hrt : (x : Int).tmod (y : Int) = (r : Int) := by rw [Int.tmod_eq_emod_of_nonneg (by omega)]; exact hri
            have hq8 : q < 8 := by rw [← hq]; exact Nat.lt_of_le_of_lt (Nat.div_le_self _ _) hlt
            have hr8 : r < 8 := by rw [← hr]; exact Nat.lt_of_le_of_lt (Nat.mod_le _ _) hlt
            clear hm hp hpp hq hr
            go_wp2_with fail
            go_region
            go_wp2_with fail
            (with_reducible refine (HC.out _).mono ?_)
            rintro e w5 ⟨rfl, hb5⟩
            have HB5 := hid (below_tr HBY.out (show Below wo.heap.size wo w5 from ⟨hb5.os, hb5.tape, hb5.output, hb5.size, hb5.block⟩))
            clear hb5
            go_wp2_with fail
            go_roundw
            case rel => exact ⟨y + 1, by omega, rfl, by go_num, HB5.out⟩
            case measure => (simp [intOf] <;> omega)
        · obtain rfl : y = 8 := by omega
          have HBY := hid hby
          clear hby
          go_wp2
          go_roundw
          case rel => exact ⟨x + 1, by omega, rfl, by go_num, HBY.out⟩
          case measure => (simp [intOf] <;> omega)
    · obtain rfl : x = 8 := by omega
      have HBX := hid hbx
      clear hbx
      go_wp2_with fail
      (with_reducible refine (small_any 1 1 _).mono ?_)
      rintro e w3 ⟨bb, vin, vval, rfl, hC, hb, hbb, hlo⟩
      obtain ⟨pi, ci, rfl, _, _, _⟩ := hC.inp.opn (insM_len _)
      obtain ⟨pv, cv, rfl, _, _, _⟩ := hC.val.opn (valsM_len _ _)
      generalize sigB (smallV 1 1) = σ0 at *
      have hB0 : Bas wr bb 6 _ _ 7 1 w3 σ0 ⟨7, [[1]]⟩ := ⟨St.mk hC hb hlo, Nat.le_refl _, Nat.le_refl _⟩
      obtain ⟨hB1, hT1, hs1, hf1⟩ := hB0.box _ rfl
      obtain ⟨w4, hw4⟩ : ∃ w4, w3.alloc (.cells #[.pointer (some ⟨bb, 0, none⟩), .slice pi 6 ci, .slice pv 6 cv] 28) = w4 := ⟨_, rfl⟩
      rw [hw4] at hB1 hT1 hs1 hf1
      have e3 : w3.heap.size + 1 = w4.heap.size := by omega
      have HE3 := hid e3
      obtain ⟨w5, hw5⟩ : ∃ w5, w4.alloc (.cells #[.int .i64 2, .int .i64 3, .int .i64 4] 3) = w5 := ⟨_, rfl⟩
      obtain ⟨hB2, hb2, hf2, hi2, hs2⟩ := hB1.lay [2, 3, 4] 3 rfl (by omega) w5 hw5
      obtain ⟨w6, hw6⟩ : ∃ w6, w5.alloc (.cells #[.int .i64 5, .int .i64 6] 3) = w6 := ⟨_, rfl⟩
      obtain ⟨hB3, hb3, hf3, hi3, hs3⟩ := hB2.lay [5, 6] 2 rfl (by omega) w6 hw6
      have HB := hid hB3; have HT := hid ((hT1.fr hf2).fr hf3)
      have HW4 := hid hw4; have HW5 := hid hw5; have HW6 := hid hw6
      clear hC hb hbb hlo hB0 hB1 hT1 hs1 hf1 hB2 hb2 hf2 hi2 hs2 hB3 hb3 hf3 hi3 hs3 hw4 hw5 hw6 e3
      go_wp2_with fail
      rw [HW4.out, HW5.out, HW6.out]
      (with_reducible refine (mul_no (mcheck_32 bb _ _ _ _ _) (.inr (.inl rfl))).mono ?_)
      rintro e w' ⟨rfl, rfl⟩
      obtain ⟨b0, b1, b2⟩ := HT.out.boxS
      clear HW4 HW5 HW6
      go_wp2_with fail
      (with_reducible refine (div_no (mcheck_0 bb _) (.inr (.inl rfl))).mono ?_)
      rintro e w' ⟨rfl, rfl⟩
      obtain ⟨w7, hw7⟩ : ∃ w7, w6.alloc (.cells #[.int .i64 2] 3) = w7 := ⟨_, rfl⟩
      obtain ⟨hB1, hb1, hf1, hi1, hs1⟩ := HB.out.lay [2] 1 rfl (by omega) w7 hw7
      obtain ⟨w8, hw8⟩ : ∃ w8, w7.alloc (.cells #[.int .i64 9] 3) = w8 := ⟨_, rfl⟩
      obtain ⟨hB2, hb2, hf2, hi2, hs2⟩ := hB1.lay [9] 1 rfl (by omega) w8 hw8
      have HC := hid (mul_no (mcheck_bad bb ⟨7, [[1]]⟩ 2 9 _ _ w8 hB2.st.c.b (hi1.fr hf2) hi2 (by omega) (by omega) (.inr (by decide))) (.inr (.inr rfl)))
      have hT := (HT.out.fr hf1).fr hf2
      have HWa := hid hw7; have HWb := hid hw8; have HS := hid hs1.symm
      clear HB HT hb1 hf1 hi1 hs1 hB1 hb2 hf2 hi2 hs2 hw7 hw8
      have HB := hid hB2; have HT := hid hT
      clear hB2 hT
      go_wp2_with fail
      rw [HWa.out, HS.out, HWb.out]
      (with_reducible refine HC.out.mono ?_)
      rintro e w9 ⟨rfl, hBi, hf⟩
      have hB := HB.out.same hf hBi
      have hT := HT.out.fr hf
      have hS := hT.boxS
      clear HB HT HC HWa HWb HS b0 b1 b2
      have HB := hid hB; have HT := hid hT
      clear hB hT hf hBi
      have hmk : ∀ w : World, (Instr.makeSlice 23 (.int .i64 65) (.int .i64 65)).run Try.prog w = .ok (.slice (some ⟨w.heap.size, 0, none⟩) 65 65) (w.alloc (.cells (Array.replicate 65 (.int .i64 0)) 3)) := fun w =>
        make_run (P := Try.prog) Try.underlying23 info_int rfl 65 (by omega) (by omega) w
      obtain ⟨b0, b1, b2⟩ := hS
      have hlt9 := HT.out.lt
      go_wp2_with fail
      have hS : (BoxS w3.heap.size (.pointer (some ⟨bb, 0, none⟩)) (.slice pi 6 ci) (.slice pv 6 cv)) w9.drew := HT.out.boxS
      have hFa : ∀ f, Fence.wide.fn f := fun _ => trivial
      refine (wpIn_wide (n := 9)).1 ?_
      refine wpIn_onlyN ?_
      refine wpIn_region_HJ (BoxS w3.heap.size (.pointer (some ⟨bb, 0, none⟩)) (.slice pi 6 ci) (.slice pv 6 cv)) 11 (by kernel_rfl) ?_
      simp only [List.size_toArray, List.length_cons, List.length_nil, Nat.reduceAdd]
      refine wpHJ_pure (v := ?vm0_1) 0 hFa rfl (by kernel_rfl) (fun _ _ _ h => h.elim) (Or.inl ⟨by rfl, ?ym0_1⟩) (.inr hS) ?rm0_1
      case ym0_1 => (intro w' _; go_simp; try rfl)
      simp only [Act.put, List.getElem_toArray, List.getElem_cons_succ, List.getElem_cons_zero, List.setIfInBounds_toArray, List.set_cons_zero, List.set_cons_succ]
      refine wpHJ_take (v := ?vm1_2) 1 hFa rfl (by kernel_rfl) (fun _ _ _ h => h.elim) (Or.inl ⟨by rfl, ?ym1_2⟩) hS ?rm1_2
      case ym1_2 => (intro w' hS'; obtain ⟨s1, s2, s3⟩ := hS'; go_simp; try rfl)
      simp only [Act.put, List.getElem_toArray, List.getElem_cons_succ, List.getElem_cons_zero, List.setIfInBounds_toArray, List.set_cons_zero, List.set_cons_succ]
      refine wpHJ_two 2 3 (by kernel_rfl) rfl rfl ?_ ?_
      · intro K hK
        go_simp
        obtain ⟨w10, hw10⟩ : ∃ w10, (World.alloc w9 (.cells (Array.replicate 65 (.int .i64 0)) 3)).drew = w10 := ⟨_, rfl⟩
        rw [hw10]
        have hb10 : Below w9.heap.size w9 w10 := by rw [← hw10]; exact ((Below.refl _ _).alloc (Nat.le_refl _) _).drew
        have hS10 := HT.out.boxS.below hb10 hlt9
        have hlt10 : w3.heap.size < w10.heap.size := Nat.lt_of_lt_of_le hlt9 hb10.size
        refine hK _ _ (.inr (.inr hS10)) ?_
        clear hK K
        refine wpHJ_only 3 (by kernel_rfl) rfl ?_
        intro K hK
        go_simp
        obtain ⟨w11, hw11⟩ : ∃ w11, World.alloc w10 (.cells (Array.replicate 65 (.int .i64 0)) 3) = w11 := ⟨_, rfl⟩
        rw [hw11]
        have hb11 : Below w10.heap.size w10 w11 := by rw [← hw11]; exact (Below.refl _ _).alloc (Nat.le_refl _) _
        have hS11 := hS10.below hb11 hlt10
        have hlt11 : w3.heap.size < w11.heap.size := Nat.lt_of_lt_of_le hlt10 hb11.size
        refine hK _ _ (.inr (.inr hS11)) ?_
        clear hK K
        refine wpHJ_only 4 (by kernel_rfl) rfl ?_
        intro K hK
        go_simp
        (with_reducible refine (callsIn_wide.2 (div_no (mcheck_65 bb _ _ _ _ _) (.inr (.inl rfl)))).mono ?_)
        rintro e w' ⟨rfl, rfl⟩
        refine hK _ _ (.inr (.inr hS11)) ?_
        clear hK K
        refine wpHJ_pure (v := ?vm5_7) 5 hFa rfl (by kernel_rfl) (fun _ _ _ h => h.elim) (Or.inl ⟨by rfl, ?ym5_7⟩) (.inr hS11) ?rm5_7
        case ym5_7 => (intro w' _; go_simp; try rfl)
        simp only [Act.put, List.getElem_toArray, List.getElem_cons_succ, List.getElem_cons_zero, List.setIfInBounds_toArray, List.set_cons_zero, List.set_cons_succ]
        refine wpHJ_pure (v := ?vm6_8) 6 hFa rfl (by kernel_rfl) (fun _ _ _ h => h.elim) (Or.inl ⟨by rfl, ?ym6_8⟩) (.inr hS11) ?rm6_8
        case ym6_8 => (intro w' _; go_simp; try rfl)
        simp only [Act.put, List.getElem_toArray, List.getElem_cons_succ, List.getElem_cons_zero, List.setIfInBounds_toArray, List.set_cons_zero, List.set_cons_succ]
        refine wpHJ_pure (v := ?vm7_9) 7 hFa rfl (by kernel_rfl) (fun _ _ _ h => h.elim) (Or.inl ⟨by rfl, ?ym7_9⟩) (.inr hS11) ?rm7_9
        case ym7_9 => (intro w' _; go_simp; try rfl)
        simp only [Act.put, List.getElem_toArray, List.getElem_cons_succ, List.getElem_cons_zero, List.setIfInBounds_toArray, List.set_cons_zero, List.set_cons_succ]
        refine wpHJ_pure (v := ?vm8_10) 8 hFa rfl (by kernel_rfl) (fun _ _ _ h => h.elim) (Or.inl ⟨by rfl, ?ym8_10⟩) (.inr hS11) ?rm8_10
        case ym8_10 => (intro w' _; go_simp; try rfl)
        simp only [Act.put, List.getElem_toArray, List.getElem_cons_succ, List.getElem_cons_zero, List.setIfInBounds_toArray, List.set_cons_zero, List.set_cons_succ]
        refine wpHJ_pure (v := ?vm9_11) 9 hFa rfl (by kernel_rfl) (fun _ _ _ h => h.elim) (Or.inl ⟨by rfl, ?ym9_11⟩) (.inr hS11) ?rm9_11
        case ym9_11 => (intro w' _; go_simp; try rfl)
        simp only [Act.put, List.getElem_toArray, List.getElem_cons_succ, List.getElem_cons_zero, List.setIfInBounds_toArray, List.set_cons_zero, List.set_cons_succ]
        refine wpHJ_pure (v := ?vm10_12) 10 hFa rfl (by kernel_rfl) (fun _ _ _ h => h.elim) (Or.inl ⟨by rfl, ?ym10_12⟩) (.inr hS11) ?rm10_12
        case ym10_12 => (intro w' _; go_simp; try rfl)
        simp only [Act.put, List.getElem_toArray, List.getElem_cons_succ, List.getElem_cons_zero, List.setIfInBounds_toArray, List.set_cons_zero, List.set_cons_succ]
        refine wpHJ_only 11 (by kernel_rfl) rfl ?_
        intro K hK
        go_simp
        refine hK _ _ (.inl rfl) ?_
        clear hK K
        refine wpHJ_done (by kernel_rfl) ?_ _
        simp only [onlyN, Exit.then]
        clear hFa
        have hb9 : Below w9.heap.size w9 w11 := by
          exact below_tr' hb10 hb11 (Nat.le_refl _)
        have hf9 := FrB.of_below HB.out.st.c.b hb9
        have hB := HB.out.fr hb9
        have hT := HT.out.fr hf9
        clear HB HT hb9 hf9 hb10 hb11 hS10 hS11 hS hlt9 hlt10 hlt11 hw10 hw11
        have HB := hid hB; have HT := hid hT
        have hS := hT.boxS
        clear hB hT
        obtain ⟨b0, b1, b2⟩ := hS
        obtain ⟨w12, hw12⟩ : ∃ w12, w11.alloc (.cells #[.int .i64 0] 3) = w12 := ⟨_, rfl⟩
        obtain ⟨hB1, hb1, hf1, hi1, hs1⟩ := HB.out.lay [0] 1 rfl (by omega) w12 hw12
        obtain ⟨w13, hw13⟩ : ∃ w13, w12.alloc (.cells #[.int .i64 2] 3) = w13 := ⟨_, rfl⟩
        obtain ⟨hB2, hb2, hf2, hi2, hs2⟩ := hB1.lay [2] 1 rfl (by omega) w13 hw13
        have HC := hid (div_no (mcheck_bad bb ⟨7, [[1]]⟩ 0 2 _ _ w13 hB2.st.c.b (hi1.fr hf2) hi2 (by omega) (by omega) (.inl (by decide))) (.inr (.inr rfl)))
        have hT := (HT.out.fr hf1).fr hf2
        have HWa := hid hw12; have HWb := hid hw13; have HS := hid hs1.symm
        clear HB HT hb1 hf1 hi1 hs1 hB1 hb2 hf2 hi2 hs2 hw12 hw13
        have HB := hid hB2; have HT := hid hT
        clear hB2 hT
        go_wp2_with fail
        rw [HWa.out, HS.out, HWb.out]
        (with_reducible refine HC.out.mono ?_)
        rintro e w14 ⟨rfl, hBi, hf⟩
        have hB := HB.out.same hf hBi
        have hT := HT.out.fr hf
        have hS := hT.boxS
        clear HB HT HC HWa HWb HS b0 b1 b2
        have HB := hid hB; have HT := hid hT
        clear hB hT hf hBi
        have HBF := hid (below_tr HBX.out HB.out.st.fr)
        clear HB HT hS
        go_wp2_with fail
        (with_reducible refine (mul_no (mcheck_nil _) (.inl rfl)).mono ?_)
        rintro e w' ⟨rfl, rfl⟩
        go_wp2_with fail
        (with_reducible refine (div_no (mcheck_nil _) (.inl rfl)).mono ?_)
        rintro e w' ⟨rfl, rfl⟩
        go_wp2_with (go_at_call 61; refine (awake17_any _).mono ?_; rintro e wz ⟨rfl, hbz⟩)
        go_ret
        exact ⟨rfl, below_tr HBF.out hbz⟩
      · intro K hK
        go_simp
        obtain ⟨w10, hw10⟩ : ∃ w10, (World.alloc w9 (.cells (Array.replicate 65 (.int .i64 0)) 3)).drew = w10 := ⟨_, rfl⟩
        rw [hw10]
        have hb10 : Below w9.heap.size w9 w10 := by rw [← hw10]; exact ((Below.refl _ _).alloc (Nat.le_refl _) _).drew
        have hS10 := HT.out.boxS.below hb10 hlt9
        have hlt10 : w3.heap.size < w10.heap.size := Nat.lt_of_lt_of_le hlt9 hb10.size
        refine hK _ _ (.inr (.inr hS10)) ?_
        clear hK K
        refine wpHJ_only 2 (by kernel_rfl) rfl ?_
        intro K hK
        go_simp
        obtain ⟨w11, hw11⟩ : ∃ w11, World.alloc w10 (.cells (Array.replicate 65 (.int .i64 0)) 3) = w11 := ⟨_, rfl⟩
        rw [hw11]
        have hb11 : Below w10.heap.size w10 w11 := by rw [← hw11]; exact (Below.refl _ _).alloc (Nat.le_refl _) _
        have hS11 := hS10.below hb11 hlt10
        have hlt11 : w3.heap.size < w11.heap.size := Nat.lt_of_lt_of_le hlt10 hb11.size
        refine hK _ _ (.inr (.inr hS11)) ?_
        clear hK K
        refine wpHJ_only 4 (by kernel_rfl) rfl ?_
        intro K hK
        go_simp
        (with_reducible refine (callsIn_wide.2 (div_no (mcheck_65 bb _ _ _ _ _) (.inr (.inl rfl)))).mono ?_)
        rintro e w' ⟨rfl, rfl⟩
        refine hK _ _ (.inr (.inr hS11)) ?_
        clear hK K
        refine wpHJ_pure (v := ?vm5_16) 5 hFa rfl (by kernel_rfl) (fun _ _ _ h => h.elim) (Or.inl ⟨by rfl, ?ym5_16⟩) (.inr hS11) ?rm5_16
        case ym5_16 => (intro w' _; go_simp; try rfl)
        simp only [Act.put, List.getElem_toArray, List.getElem_cons_succ, List.getElem_cons_zero, List.setIfInBounds_toArray, List.set_cons_zero, List.set_cons_succ]
        refine wpHJ_pure (v := ?vm6_17) 6 hFa rfl (by kernel_rfl) (fun _ _ _ h => h.elim) (Or.inl ⟨by rfl, ?ym6_17⟩) (.inr hS11) ?rm6_17
        case ym6_17 => (intro w' _; go_simp; try rfl)
        simp only [Act.put, List.getElem_toArray, List.getElem_cons_succ, List.getElem_cons_zero, List.setIfInBounds_toArray, List.set_cons_zero, List.set_cons_succ]
        refine wpHJ_pure (v := ?vm7_18) 7 hFa rfl (by kernel_rfl) (fun _ _ _ h => h.elim) (Or.inl ⟨by rfl, ?ym7_18⟩) (.inr hS11) ?rm7_18
        case ym7_18 => (intro w' _; go_simp; try rfl)
        simp only [Act.put, List.getElem_toArray, List.getElem_cons_succ, List.getElem_cons_zero, List.setIfInBounds_toArray, List.set_cons_zero, List.set_cons_succ]
        refine wpHJ_pure (v := ?vm8_19) 8 hFa rfl (by kernel_rfl) (fun _ _ _ h => h.elim) (Or.inl ⟨by rfl, ?ym8_19⟩) (.inr hS11) ?rm8_19
        case ym8_19 => (intro w' _; go_simp; try rfl)
        simp only [Act.put, List.getElem_toArray, List.getElem_cons_succ, List.getElem_cons_zero, List.setIfInBounds_toArray, List.set_cons_zero, List.set_cons_succ]
        refine wpHJ_pure (v := ?vm9_20) 9 hFa rfl (by kernel_rfl) (fun _ _ _ h => h.elim) (Or.inl ⟨by rfl, ?ym9_20⟩) (.inr hS11) ?rm9_20
        case ym9_20 => (intro w' _; go_simp; try rfl)
        simp only [Act.put, List.getElem_toArray, List.getElem_cons_succ, List.getElem_cons_zero, List.setIfInBounds_toArray, List.set_cons_zero, List.set_cons_succ]
        refine wpHJ_pure (v := ?vm10_21) 10 hFa rfl (by kernel_rfl) (fun _ _ _ h => h.elim) (Or.inl ⟨by rfl, ?ym10_21⟩) (.inr hS11) ?rm10_21
        case ym10_21 => (intro w' _; go_simp; try rfl)
        simp only [Act.put, List.getElem_toArray, List.getElem_cons_succ, List.getElem_cons_zero, List.setIfInBounds_toArray, List.set_cons_zero, List.set_cons_succ]
        refine wpHJ_only 11 (by kernel_rfl) rfl ?_
        intro K hK
        go_simp
        refine hK _ _ (.inl rfl) ?_
        clear hK K
        refine wpHJ_done (by kernel_rfl) ?_ _
        simp only [onlyN, Exit.then]
        clear hFa
        have hb9 : Below w9.heap.size w9 w11 := by
          exact below_tr' hb10 hb11 (Nat.le_refl _)
        have hf9 := FrB.of_below HB.out.st.c.b hb9
        have hB := HB.out.fr hb9
        have hT := HT.out.fr hf9
        clear HB HT hb9 hf9 hb10 hb11 hS10 hS11 hS hlt9 hlt10 hlt11 hw10 hw11
        have HB := hid hB; have HT := hid hT
        have hS := hT.boxS
        clear hB hT
        obtain ⟨b0, b1, b2⟩ := hS
        obtain ⟨w12, hw12⟩ : ∃ w12, w11.alloc (.cells #[.int .i64 0] 3) = w12 := ⟨_, rfl⟩
        obtain ⟨hB1, hb1, hf1, hi1, hs1⟩ := HB.out.lay [0] 1 rfl (by omega) w12 hw12
        obtain ⟨w13, hw13⟩ : ∃ w13, w12.alloc (.cells #[.int .i64 2] 3) = w13 := ⟨_, rfl⟩
        obtain ⟨hB2, hb2, hf2, hi2, hs2⟩ := hB1.lay [2] 1 rfl (by omega) w13 hw13
        have HC := hid (div_no (mcheck_bad bb ⟨7, [[1]]⟩ 0 2 _ _ w13 hB2.st.c.b (hi1.fr hf2) hi2 (by omega) (by omega) (.inl (by decide))) (.inr (.inr rfl)))
        have hT := (HT.out.fr hf1).fr hf2
        have HWa := hid hw12; have HWb := hid hw13; have HS := hid hs1.symm
        clear HB HT hb1 hf1 hi1 hs1 hB1 hb2 hf2 hi2 hs2 hw12 hw13
        have HB := hid hB2; have HT := hid hT
        clear hB2 hT
        go_wp2_with fail
        rw [HWa.out, HS.out, HWb.out]
        (with_reducible refine HC.out.mono ?_)
        rintro e w14 ⟨rfl, hBi, hf⟩
        have hB := HB.out.same hf hBi
        have hT := HT.out.fr hf
        have hS := hT.boxS
        clear HB HT HC HWa HWb HS b0 b1 b2
        have HB := hid hB; have HT := hid hT
        clear hB hT hf hBi
        have HBF := hid (below_tr HBX.out HB.out.st.fr)
        clear HB HT hS
        go_wp2_with fail
        (with_reducible refine (mul_no (mcheck_nil _) (.inl rfl)).mono ?_)
        rintro e w' ⟨rfl, rfl⟩
        go_wp2_with fail
        (with_reducible refine (div_no (mcheck_nil _) (.inl rfl)).mono ?_)
        rintro e w' ⟨rfl, rfl⟩
        go_wp2_with (go_at_call 61; refine (awake17_any _).mono ?_; rintro e wz ⟨rfl, hbz⟩)
        go_ret
        exact ⟨rfl, below_tr HBF.out hbz⟩

end Go.Proofs.Ytngimdbjcelkeaa
