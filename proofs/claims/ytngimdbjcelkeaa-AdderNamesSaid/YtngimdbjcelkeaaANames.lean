/-
  The walk of AdderNames.
-/
import Derived.Test.YtngimdbjcelkeaaANo
namespace Go.Proofs.Ytngimdbjcelkeaa
set_option linter.unusedSimpArgs false
set_option linter.unusedVariables false
open Go.RowKit Go.Shelf
attribute [local go_sem] Oper.semAt_some

theorem names_ev : let ax := [2, 3, 4].map (litT (sigB (smallV 5 3))); let ay := [5, 6, 7].map (litT (sigB (smallV 5 3)));
    valB (addB ax ay (litT (sigB (smallV 5 3)) (-1))) = 0 ∧ valB (addB ay (ax.map (!·)) true) = 6 ∧ valB (chooseB (litT (sigB (smallV 5 3)) (-4)) ax ay) = 3 ∧
    valB [decide (ax = ay)] = 0 ∧ valB [lessS ax ay false] = 0 ∧ valB [lessS ay ax false] = 1 ∧ valB [ax.any id] = 1 ∧ valB [[litT (sigB (smallV 5 3)) (-1), litT (sigB (smallV 5 3)) (-1)].any id] = 0 := by decide

set_option maxRecDepth 100000 in
set_option maxHeartbeats 6400000 in
theorem names16_walk (w : World) :
    Calls Try.prog 5 #[] w fun e w' => e = .returned (.bool true) ∧ Below w.heap.size w w' := by
  have hev := names_ev
  have HSM := hid (small_any 5 3 w)
  simp only at hev
  generalize sigB (smallV 5 3) = σ0 at *
  obtain ⟨ax, hax⟩ : ∃ a, [2, 3, 4].map (litT σ0) = a := ⟨_, rfl⟩
  obtain ⟨ay, hay⟩ : ∃ a, [5, 6, 7].map (litT σ0) = a := ⟨_, rfl⟩
  obtain ⟨b4, hb4⟩ : ∃ a, litT σ0 (-4) = a := ⟨_, rfl⟩
  obtain ⟨b1, hb1⟩ : ∃ a, litT σ0 (-1) = a := ⟨_, rfl⟩
  rw [hax, hay, hb4, hb1] at hev
  have HEV := hid hev; have HAX := hid hax; have HAY := hid hay; have HB4 := hid hb4; have HB1 := hid hb1
  have hal : ax.length = 3 := by rw [← hax]; rfl
  have hbl : ay.length = 3 := by rw [← hay]; rfl
  have HAL := hid hal; have HBL := hid hbl
  clear hev hax hay hb4 hb1 hal hbl
  go_enter Try.func5, Try.ntmps5
  go_wp2_with fail
  (with_reducible refine HSM.out.mono ?_)
  rintro e w3 ⟨bb, vin, vval, rfl, hC, hb, hbb, hlo⟩
  obtain ⟨pi, ci, rfl, _, _, _⟩ := hC.inp.opn (insM_len _)
  obtain ⟨pv, cv, rfl, _, _, _⟩ := hC.val.opn (valsM_len _ _)
  have hB0 : Bas w bb 6 _ _ 7 1 w3 σ0 ⟨7, [[1]]⟩ := ⟨St.mk hC hb hlo, Nat.le_refl _, Nat.le_refl _⟩
  obtain ⟨hB1, hT1, hs1, hf1⟩ := hB0.box _ rfl
  obtain ⟨w4, hw4⟩ : ∃ w4, w3.alloc (.cells #[.pointer (some ⟨bb, 0, none⟩), .slice pi 6 ci, .slice pv 6 cv] 28) = w4 := ⟨_, rfl⟩
  rw [hw4] at hB1 hT1 hs1 hf1
  obtain ⟨w5, hw5⟩ : ∃ w5, w4.alloc (.cells #[.int .i64 2, .int .i64 3, .int .i64 4] 3) = w5 := ⟨_, rfl⟩
  obtain ⟨hB2, hb2, hf2, hi2, hs2⟩ := hB1.lay [2, 3, 4] 3 rfl (by omega) w5 hw5
  obtain ⟨w6, hw6⟩ : ∃ w6, w5.alloc (.cells #[.int .i64 5, .int .i64 6, .int .i64 7] 3) = w6 := ⟨_, rfl⟩
  obtain ⟨hB3, hb3, hf3, hi3, hs3⟩ := hB2.lay [5, 6, 7] 3 rfl (by omega) w6 hw6
  have lx : LitsAre σ0 ⟨7, [[1]]⟩ [2, 3, 4] ax := ⟨(by decide : ∀ x ∈ ([2, 3, 4] : List Int), okLit (7 : Nat) x = true), HAX.out⟩
  have ly : LitsAre σ0 ⟨7, [[1]]⟩ [5, 6, 7] ay := ⟨(by decide : ∀ x ∈ ([5, 6, 7] : List Int), okLit (7 : Nat) x = true), HAY.out⟩
  have l4 : LitIs σ0 ⟨7, [[1]]⟩ (-4) b4 := ⟨(by decide : okLit (7 : Nat) (-4) = true), HB4.out⟩
  have l1 : LitIs σ0 ⟨7, [[1]]⟩ (-1) b1 := ⟨(by decide : okLit (7 : Nat) (-1) = true), HB1.out⟩
  have HT := hid ((hT1.fr hf2).fr hf3)
  have HK := hid ((((Kit.nil (bb := bb)).word hi3 ly).word (hi2.fr hf3) lx).lit l4 |>.lit l1)
  have HB := hid hB3
  have e3 : w3.heap.size + 1 = w4.heap.size := by omega
  have e4 : w4.heap.size + 1 = w5.heap.size := by omega
  have HW4 := hid hw4; have HW5 := hid hw5; have HW6 := hid hw6; have HE3 := hid e3; have HE4 := hid e4
  clear hC hb hbb hlo hB0 hB1 hT1 hs1 hf1 hB2 hb2 hf2 hi2 hs2 hB3 hb3 hf3 hi3 hs3 lx ly l4 l1 hw4 hw5 hw6 e3 e4 HSM
  have d3 : w3.cell? ⟨w3.heap.size, 0, none⟩ = none ∨ True := .inr trivial
  clear d3
  generalize hP1 : w4.heap.size = P1 at *
  generalize hP2 : w5.heap.size = P2 at *
  go_wp2_with fail
  have HC := hid (Bas.add HB.out (m := 3) (by omega) (by omega) (HK.out.w (.slice (some ⟨P1, 0, none⟩) 3 3, [2, 3, 4], ax) (by simp)).1 (HK.out.w (.slice (some ⟨P2, 0, none⟩) 3 3, [5, 6, 7], ay) (by simp)).1 (HK.out.w (.slice (some ⟨P1, 0, none⟩) 3 3, [2, 3, 4], ax) (by simp)).2 (HK.out.w (.slice (some ⟨P2, 0, none⟩) 3 3, [5, 6, 7], ay) (by simp)).2 HAL.out HBL.out (HK.out.l (-1, b1) (by simp)) (by omega) (by omega))
  rw [HW4.out, HW5.out, HW6.out, HE3.out, HE4.out]
  (with_reducible refine HC.out.mono ?_)
  rintro e w7 ⟨v7, zs7, σ7, F7, rfl, hB, hi, hl, hf, hx⟩
  have hz : zs7.length = 3 := by rw [hl.len, addB_len _ _ _ (by rw [HAL.out, HBL.out])]; exact HAL.out
  obtain ⟨p7, c7, rfl, _, _, _⟩ := hi.opn hz
  have hT := HT.out.fr hf
  have hK := (HK.out.step hf hx).word hi hl
  clear HB HT HK HC 
  have HB := hid hB; have HT := hid hT; have HK := hid hK
  clear hB hT hK hi hl hf hx hz
  have HC := hid (Bas.sub HB.out (m := 3) (by omega) (by omega) (HK.out.w (.slice (some ⟨P2, 0, none⟩) 3 3, [5, 6, 7], ay) (by simp)).1 (HK.out.w (.slice (some ⟨P1, 0, none⟩) 3 3, [2, 3, 4], ax) (by simp)).1 (HK.out.w (.slice (some ⟨P2, 0, none⟩) 3 3, [5, 6, 7], ay) (by simp)).2 (HK.out.w (.slice (some ⟨P1, 0, none⟩) 3 3, [2, 3, 4], ax) (by simp)).2 HBL.out HAL.out (by omega) (by omega))
  obtain ⟨b0, b1', b2⟩ := HT.out.boxS
  go_wp2_with fail
  (with_reducible refine HC.out.mono ?_)
  rintro e w8 ⟨v8, zs8, σ8, F8, rfl, hB, hi, hl, hf, hx⟩
  have hz : zs8.length = 3 := by rw [hl.len, addB_len _ _ _ (by rw [List.length_map, HAL.out, HBL.out])]; exact HBL.out
  obtain ⟨p8, c8, rfl, _, _, _⟩ := hi.opn hz
  have hT := HT.out.fr hf
  have hK := (HK.out.step hf hx).word hi hl
  clear HB HT HK HC b0 b1' b2
  have HB := hid hB; have HT := hid hT; have HK := hid hK
  clear hB hT hK hi hl hf hx hz
  have HC := hid (Bas.choose HB.out (m := 3) (by omega) (by omega) (HK.out.w (.slice (some ⟨P1, 0, none⟩) 3 3, [2, 3, 4], ax) (by simp)).1 (HK.out.w (.slice (some ⟨P2, 0, none⟩) 3 3, [5, 6, 7], ay) (by simp)).1 (HK.out.w (.slice (some ⟨P1, 0, none⟩) 3 3, [2, 3, 4], ax) (by simp)).2 (HK.out.w (.slice (some ⟨P2, 0, none⟩) 3 3, [5, 6, 7], ay) (by simp)).2 HAL.out HBL.out (HK.out.l (-4, b4) (by simp)) (by omega) (by omega))
  obtain ⟨b0, b1', b2⟩ := HT.out.boxS
  go_wp2_with fail
  (with_reducible refine HC.out.mono ?_)
  rintro e w9 ⟨v9, zs9, σ9, F9, rfl, hB, hi, hl, hf, hx⟩
  have hz : zs9.length = 3 := by rw [hl.len]; unfold chooseB; split; exact HAL.out; exact HBL.out
  obtain ⟨p9, c9, rfl, _, _, _⟩ := hi.opn hz
  have hT := HT.out.fr hf
  have hK := (HK.out.step hf hx).word hi hl
  clear HB HT HK HC b0 b1' b2
  have HB := hid hB; have HT := hid hT; have HK := hid hK
  clear hB hT hK hi hl hf hx hz
  have hL7 : (addB ax ay b1).length = 3 := by rw [addB_len _ _ _ (by rw [HAL.out, HBL.out])]; exact HAL.out
  have hL8 : (addB ay (ax.map (!·)) true).length = 3 := by rw [addB_len _ _ _ (by rw [List.length_map, HAL.out, HBL.out])]; exact HBL.out
  have hL9 : (chooseB b4 ax ay).length = 3 := by unfold chooseB; split; exact HAL.out; exact HBL.out
  have HL7 := hid hL7; have HL8 := hid hL8; have HL9 := hid hL9
  clear hL7 hL8 hL9
  obtain ⟨g0, g1, g2⟩ := HT.out.boxS
  have HQ := hid (Below.refl w9.heap.size w9)
  have HC : Hid (Calls Try.prog 40 #[.int .u64 0, .slice p7 3 c7, .int .i64 0, .pointer (some ⟨w3.heap.size, 0, none⟩)] w9 fun e w' => e = .returned (.bool true) ∧ Below w9.heap.size w9 w') :=
    hid (names1_any w3.heap.size bb _ _ ((0 : Nat) : Int) p7 c7 w9 _ (HT.out.boxS.below HQ.out HT.out.lt) (HK.out.shows HB.out (v := .slice p7 3 c7) (zs := zs7) (bs := addB ax ay b1) (by simp) (by rw [show (addB ax ay b1).length = 3 from HL7.out]; omega) (want := 0) HEV.out.1 HQ.out))
  go_wp2_with fail
  (with_reducible refine HC.out.mono ?_)
  rintro e s9_1 ⟨rfl, hq⟩
  clear HC HQ
  have HQ := hid hq
  clear hq
  have HC : Hid (Calls Try.prog 40 #[.int .u64 6, .slice p8 3 c8, .int .i64 0, .pointer (some ⟨w3.heap.size, 0, none⟩)] s9_1 fun e w' => e = .returned (.bool true) ∧ Below w9.heap.size w9 w') :=
    hid (names1_any w3.heap.size bb _ _ ((6 : Nat) : Int) p8 c8 s9_1 _ (HT.out.boxS.below HQ.out HT.out.lt) (HK.out.shows HB.out (v := .slice p8 3 c8) (zs := zs8) (bs := addB ay (ax.map (!·)) true) (by simp) (by rw [show (addB ay (ax.map (!·)) true).length = 3 from HL8.out]; omega) (want := 6) HEV.out.2.1 HQ.out))
  go_wp2_with fail
  (with_reducible refine HC.out.mono ?_)
  rintro e s9_2 ⟨rfl, hq⟩
  clear HC HQ
  have HQ := hid hq
  clear hq
  have HC : Hid (Calls Try.prog 40 #[.int .u64 3, .slice p9 3 c9, .int .i64 0, .pointer (some ⟨w3.heap.size, 0, none⟩)] s9_2 fun e w' => e = .returned (.bool true) ∧ Below w9.heap.size w9 w') :=
    hid (names1_any w3.heap.size bb _ _ ((3 : Nat) : Int) p9 c9 s9_2 _ (HT.out.boxS.below HQ.out HT.out.lt) (HK.out.shows HB.out (v := .slice p9 3 c9) (zs := zs9) (bs := chooseB b4 ax ay) (by simp) (by rw [show (chooseB b4 ax ay).length = 3 from HL9.out]; omega) (want := 3) HEV.out.2.2.1 HQ.out))
  go_wp2_with fail
  (with_reducible refine HC.out.mono ?_)
  rintro e s9_3 ⟨rfl, hq⟩
  clear HC HQ
  have HQ := hid hq
  clear hq
  have hb := HQ.out
  have hf := FrB.of_below HB.out.st.c.b hb
  have hB := HB.out.fr hb; have hT := HT.out.fr hf; have hK := HK.out.fr hf
  clear HB HT HK HQ hb hf g0 g1 g2
  have HB := hid hB; have HT := hid hT; have HK := hid hK
  clear hB hT hK
  have HC := hid (Bas.equal HB.out (m := 3) (by omega) (by omega) (HK.out.w (.slice (some ⟨P1, 0, none⟩) 3 3, [2, 3, 4], ax) (by simp)).1 (HK.out.w (.slice (some ⟨P2, 0, none⟩) 3 3, [5, 6, 7], ay) (by simp)).1 (HK.out.w (.slice (some ⟨P1, 0, none⟩) 3 3, [2, 3, 4], ax) (by simp)).2 (HK.out.w (.slice (some ⟨P2, 0, none⟩) 3 3, [5, 6, 7], ay) (by simp)).2 HAL.out HBL.out (by omega) (by omega))
  obtain ⟨b0, b1', b2⟩ := HT.out.boxS
  go_wp2_with fail
  (with_reducible refine HC.out.mono ?_)
  rintro e w10 ⟨z10, σ10, F10, rfl, hB, hl, hf, hx⟩
  have hT := HT.out.fr hf
  have hK := (HK.out.step hf hx).lit hl
  clear HB HT HK HC b0 b1' b2
  have HB := hid hB; have HT := hid hT; have HK := hid hK
  clear hB hT hK hl hf hx
  have HC := hid (Bas.less HB.out (m := 3) (by omega) (by omega) (HK.out.w (.slice (some ⟨P1, 0, none⟩) 3 3, [2, 3, 4], ax) (by simp)).1 (HK.out.w (.slice (some ⟨P2, 0, none⟩) 3 3, [5, 6, 7], ay) (by simp)).1 (HK.out.w (.slice (some ⟨P1, 0, none⟩) 3 3, [2, 3, 4], ax) (by simp)).2 (HK.out.w (.slice (some ⟨P2, 0, none⟩) 3 3, [5, 6, 7], ay) (by simp)).2 HAL.out HBL.out false (by omega) (by omega))
  obtain ⟨b0, b1', b2⟩ := HT.out.boxS
  go_wp2_with fail
  (with_reducible refine HC.out.mono ?_)
  rintro e w11 ⟨z11, σ11, F11, rfl, hB, hl, hf, hx⟩
  have hT := HT.out.fr hf
  have hK := (HK.out.step hf hx).lit hl
  clear HB HT HK HC b0 b1' b2
  have HB := hid hB; have HT := hid hT; have HK := hid hK
  clear hB hT hK hl hf hx
  have HC := hid (Bas.less HB.out (m := 3) (by omega) (by omega) (HK.out.w (.slice (some ⟨P2, 0, none⟩) 3 3, [5, 6, 7], ay) (by simp)).1 (HK.out.w (.slice (some ⟨P1, 0, none⟩) 3 3, [2, 3, 4], ax) (by simp)).1 (HK.out.w (.slice (some ⟨P2, 0, none⟩) 3 3, [5, 6, 7], ay) (by simp)).2 (HK.out.w (.slice (some ⟨P1, 0, none⟩) 3 3, [2, 3, 4], ax) (by simp)).2 HBL.out HAL.out false (by omega) (by omega))
  obtain ⟨b0, b1', b2⟩ := HT.out.boxS
  go_wp2_with fail
  (with_reducible refine HC.out.mono ?_)
  rintro e w12 ⟨z12, σ12, F12, rfl, hB, hl, hf, hx⟩
  have hT := HT.out.fr hf
  have hK := (HK.out.step hf hx).lit hl
  clear HB HT HK HC b0 b1' b2
  have HB := hid hB; have HT := hid hT; have HK := hid hK
  clear hB hT hK hl hf hx
  obtain ⟨g0, g1, g2⟩ := HT.out.boxS
  have HQ := hid (Below.refl w12.heap.size w12)
  have hal1 : Below w12.heap.size w12 (w12.alloc (.cells #[.int .i64 z10] 3)) := HQ.out.alloc HQ.out.size _
  have hk1 : Kit bb (w12.alloc (.cells #[.int .i64 z10] 3)) σ12 F12 ((.slice (some ⟨w12.heap.size, 0, none⟩) 1 1, [z10], [decide (ax = ay)]) :: _) _ := (HK.out.fr (FrB.of_below HB.out.st.c.b hal1)).word (Ints.whole rfl (by rw [heap_al, if_pos rfl]; rfl) (HB.out.st.c.b.away_new hal1 HQ.out.size (by simp)) (by simp)) (LitsAre.one (HK.out.l (z10, decide (ax = ay)) (by simp)))
  have hbb1 : Bas w bb 6 _ _ _ _ (w12.alloc (.cells #[.int .i64 z10] 3)) σ12 F12 := HB.out.fr hal1
  have HC : Hid (Calls Try.prog 42 #[.int .u64 0, .int .i64 z10, .int .i64 0, .pointer (some ⟨w3.heap.size, 0, none⟩)] w12 fun e w' => e = .returned (.bool true) ∧ Below (w12.alloc (.cells #[.int .i64 z10] 3)).heap.size (w12.alloc (.cells #[.int .i64 z10] 3)) w') :=
    hid (names2_any w3.heap.size bb _ _ ((0 : Nat) : Int) z10 w12 _ (HT.out.boxS.below HQ.out HT.out.lt) (hk1.shows hbb1 (v := .slice (some ⟨w12.heap.size, 0, none⟩) 1 1) (zs := [z10]) (bs := [decide (ax = ay)]) (by simp) (by simp) (want := 0) HEV.out.2.2.2.1 (Below.refl _ _)))
  have HA1 := hid hal1
  clear hal1 hk1 hbb1
  go_wp2_with fail
  (with_reducible refine HC.out.mono ?_)
  rintro e s12_1 ⟨rfl, hq⟩
  have hq := below_tr' HA1.out hq (Nat.le_refl _)
  clear HC HQ HA1
  have HQ := hid hq
  clear hq
  have hal1 : Below w12.heap.size w12 (s12_1.alloc (.cells #[.int .i64 z11] 3)) := HQ.out.alloc HQ.out.size _
  have hk1 : Kit bb (s12_1.alloc (.cells #[.int .i64 z11] 3)) σ12 F12 ((.slice (some ⟨s12_1.heap.size, 0, none⟩) 1 1, [z11], [lessS ax ay false]) :: _) _ := (HK.out.fr (FrB.of_below HB.out.st.c.b hal1)).word (Ints.whole rfl (by rw [heap_al, if_pos rfl]; rfl) (HB.out.st.c.b.away_new hal1 HQ.out.size (by simp)) (by simp)) (LitsAre.one (HK.out.l (z11, lessS ax ay false) (by simp)))
  have hbb1 : Bas w bb 6 _ _ _ _ (s12_1.alloc (.cells #[.int .i64 z11] 3)) σ12 F12 := HB.out.fr hal1
  have HC : Hid (Calls Try.prog 42 #[.int .u64 0, .int .i64 z11, .int .i64 0, .pointer (some ⟨w3.heap.size, 0, none⟩)] s12_1 fun e w' => e = .returned (.bool true) ∧ Below (s12_1.alloc (.cells #[.int .i64 z11] 3)).heap.size (s12_1.alloc (.cells #[.int .i64 z11] 3)) w') :=
    hid (names2_any w3.heap.size bb _ _ ((0 : Nat) : Int) z11 s12_1 _ (HT.out.boxS.below HQ.out HT.out.lt) (hk1.shows hbb1 (v := .slice (some ⟨s12_1.heap.size, 0, none⟩) 1 1) (zs := [z11]) (bs := [lessS ax ay false]) (by simp) (by simp) (want := 0) HEV.out.2.2.2.2.1 (Below.refl _ _)))
  have HA1 := hid hal1
  clear hal1 hk1 hbb1
  go_wp2_with fail
  (with_reducible refine HC.out.mono ?_)
  rintro e s12_2 ⟨rfl, hq⟩
  have hq := below_tr' HA1.out hq (Nat.le_refl _)
  clear HC HQ HA1
  have HQ := hid hq
  clear hq
  have hal1 : Below w12.heap.size w12 (s12_2.alloc (.cells #[.int .i64 z12] 3)) := HQ.out.alloc HQ.out.size _
  have hk1 : Kit bb (s12_2.alloc (.cells #[.int .i64 z12] 3)) σ12 F12 ((.slice (some ⟨s12_2.heap.size, 0, none⟩) 1 1, [z12], [lessS ay ax false]) :: _) _ := (HK.out.fr (FrB.of_below HB.out.st.c.b hal1)).word (Ints.whole rfl (by rw [heap_al, if_pos rfl]; rfl) (HB.out.st.c.b.away_new hal1 HQ.out.size (by simp)) (by simp)) (LitsAre.one (HK.out.l (z12, lessS ay ax false) (by simp)))
  have hbb1 : Bas w bb 6 _ _ _ _ (s12_2.alloc (.cells #[.int .i64 z12] 3)) σ12 F12 := HB.out.fr hal1
  have HC : Hid (Calls Try.prog 42 #[.int .u64 1, .int .i64 z12, .int .i64 0, .pointer (some ⟨w3.heap.size, 0, none⟩)] s12_2 fun e w' => e = .returned (.bool true) ∧ Below (s12_2.alloc (.cells #[.int .i64 z12] 3)).heap.size (s12_2.alloc (.cells #[.int .i64 z12] 3)) w') :=
    hid (names2_any w3.heap.size bb _ _ ((1 : Nat) : Int) z12 s12_2 _ (HT.out.boxS.below HQ.out HT.out.lt) (hk1.shows hbb1 (v := .slice (some ⟨s12_2.heap.size, 0, none⟩) 1 1) (zs := [z12]) (bs := [lessS ay ax false]) (by simp) (by simp) (want := 1) HEV.out.2.2.2.2.2.1 (Below.refl _ _)))
  have HA1 := hid hal1
  clear hal1 hk1 hbb1
  go_wp2_with fail
  (with_reducible refine HC.out.mono ?_)
  rintro e s12_3 ⟨rfl, hq⟩
  have hq := below_tr' HA1.out hq (Nat.le_refl _)
  clear HC HQ HA1
  have HQ := hid hq
  clear hq
  have hb := HQ.out
  have hf := FrB.of_below HB.out.st.c.b hb
  have hB := HB.out.fr hb; have hT := HT.out.fr hf; have hK := HK.out.fr hf
  clear HB HT HK HQ hb hf g0 g1 g2
  have HB := hid hB; have HT := hid hT; have HK := hid hK
  clear hB hT hK
  have HC := hid (Bas.any HB.out (m := 3) (by omega) (by omega) (HK.out.w (.slice (some ⟨P1, 0, none⟩) 3 3, [2, 3, 4], ax) (by simp)).1 (HK.out.w (.slice (some ⟨P1, 0, none⟩) 3 3, [2, 3, 4], ax) (by simp)).2 HAL.out (by omega) (by omega))
  obtain ⟨b0, b1', b2⟩ := HT.out.boxS
  go_wp2_with fail
  (with_reducible refine HC.out.mono ?_)
  rintro e w13 ⟨z13, σ13, F13, rfl, hB, hl, hf, hx⟩
  have hT := HT.out.fr hf
  have hK := (HK.out.step hf hx).lit hl
  clear HB HT HK HC b0 b1' b2
  have HB := hid hB; have HT := hid hT; have HK := hid hK
  clear hB hT hK hl hf hx
  obtain ⟨wl, hwl⟩ : ∃ wl, w13.alloc (.cells #[.int .i64 (-1), .int .i64 (-1)] 3) = wl := ⟨_, rfl⟩
  obtain ⟨hBl, hbl, hfl, hil, hsl⟩ := HB.out.lay [-1, -1] 2 rfl (by omega) wl hwl
  have hKl := (HK.out.fr hfl)
  have hTl := HT.out.fr hfl
  have l1 := hKl.l (-1, b1) (by simp)
  have ll : LitsAre σ13 F13 [-1, -1] [b1, b1] := ⟨fun x hx => by simp at hx; subst hx; exact l1.1, by rw [List.map_cons, List.map_cons, l1.2]; rfl⟩
  have HC := hid (Bas.any hBl (m := 2) (by omega) (by omega) hil ll rfl (by omega) (by omega))
  obtain ⟨b0, b1', b2⟩ := HT.out.boxS
  have HWL := hid hwl
  clear HB HT HK hwl hbl hfl hil hsl hBl l1 ll
  have HT := hid hTl; have HK := hid hKl
  clear hTl hKl
  go_wp2_with fail
  rw [HWL.out]
  (with_reducible refine HC.out.mono ?_)
  rintro e w14 ⟨z14, σ14, F14, rfl, hB, hl, hf, hx⟩
  have hT := HT.out.fr hf
  have hK := (HK.out.step hf hx).lit hl
  clear HT HK HC HWL b0 b1' b2
  have HB := hid hB; have HT := hid hT; have HK := hid hK
  clear hB hT hK hl hf hx
  obtain ⟨g0, g1, g2⟩ := HT.out.boxS
  have HQ := hid (Below.refl w14.heap.size w14)
  have hal1 : Below w14.heap.size w14 (w14.alloc (.cells #[.int .i64 z13] 3)) := HQ.out.alloc HQ.out.size _
  have hk1 : Kit bb (w14.alloc (.cells #[.int .i64 z13] 3)) σ14 F14 ((.slice (some ⟨w14.heap.size, 0, none⟩) 1 1, [z13], [ax.any id]) :: _) _ := (HK.out.fr (FrB.of_below HB.out.st.c.b hal1)).word (Ints.whole rfl (by rw [heap_al, if_pos rfl]; rfl) (HB.out.st.c.b.away_new hal1 HQ.out.size (by simp)) (by simp)) (LitsAre.one (HK.out.l (z13, ax.any id) (by simp)))
  have hbb1 : Bas w bb 6 _ _ _ _ (w14.alloc (.cells #[.int .i64 z13] 3)) σ14 F14 := HB.out.fr hal1
  have HC : Hid (Calls Try.prog 42 #[.int .u64 1, .int .i64 z13, .int .i64 0, .pointer (some ⟨w3.heap.size, 0, none⟩)] w14 fun e w' => e = .returned (.bool true) ∧ Below (w14.alloc (.cells #[.int .i64 z13] 3)).heap.size (w14.alloc (.cells #[.int .i64 z13] 3)) w') :=
    hid (names2_any w3.heap.size bb _ _ ((1 : Nat) : Int) z13 w14 _ (HT.out.boxS.below HQ.out HT.out.lt) (hk1.shows hbb1 (v := .slice (some ⟨w14.heap.size, 0, none⟩) 1 1) (zs := [z13]) (bs := [ax.any id]) (by simp) (by simp) (want := 1) HEV.out.2.2.2.2.2.2.1 (Below.refl _ _)))
  have HA1 := hid hal1
  clear hal1 hk1 hbb1
  go_wp2_with fail
  (with_reducible refine HC.out.mono ?_)
  rintro e s14_1 ⟨rfl, hq⟩
  have hq := below_tr' HA1.out hq (Nat.le_refl _)
  clear HC HQ HA1
  have HQ := hid hq
  clear hq
  have hal1 : Below w14.heap.size w14 (s14_1.alloc (.cells #[.int .i64 z14] 3)) := HQ.out.alloc HQ.out.size _
  have hk1 : Kit bb (s14_1.alloc (.cells #[.int .i64 z14] 3)) σ14 F14 ((.slice (some ⟨s14_1.heap.size, 0, none⟩) 1 1, [z14], [[b1, b1].any id]) :: _) _ := (HK.out.fr (FrB.of_below HB.out.st.c.b hal1)).word (Ints.whole rfl (by rw [heap_al, if_pos rfl]; rfl) (HB.out.st.c.b.away_new hal1 HQ.out.size (by simp)) (by simp)) (LitsAre.one (HK.out.l (z14, [b1, b1].any id) (by simp)))
  have hbb1 : Bas w bb 6 _ _ _ _ (s14_1.alloc (.cells #[.int .i64 z14] 3)) σ14 F14 := HB.out.fr hal1
  have HC : Hid (Calls Try.prog 42 #[.int .u64 0, .int .i64 z14, .int .i64 0, .pointer (some ⟨w3.heap.size, 0, none⟩)] s14_1 fun e w' => e = .returned (.bool true) ∧ Below (s14_1.alloc (.cells #[.int .i64 z14] 3)).heap.size (s14_1.alloc (.cells #[.int .i64 z14] 3)) w') :=
    hid (names2_any w3.heap.size bb _ _ ((0 : Nat) : Int) z14 s14_1 _ (HT.out.boxS.below HQ.out HT.out.lt) (hk1.shows hbb1 (v := .slice (some ⟨s14_1.heap.size, 0, none⟩) 1 1) (zs := [z14]) (bs := [[b1, b1].any id]) (by simp) (by simp) (want := 0) HEV.out.2.2.2.2.2.2.2 (Below.refl _ _)))
  have HA1 := hid hal1
  clear hal1 hk1 hbb1
  go_wp2_with fail
  (with_reducible refine HC.out.mono ?_)
  rintro e s14_2 ⟨rfl, hq⟩
  have hq := below_tr' HA1.out hq (Nat.le_refl _)
  clear HC HQ HA1
  have HQ := hid hq
  clear hq
  have hb := HQ.out
  have hf := FrB.of_below HB.out.st.c.b hb
  have hB := HB.out.fr hb; have hT := HT.out.fr hf; have hK := HK.out.fr hf
  clear HB HT HK HQ hb hf g0 g1 g2
  have HB := hid hB; have HT := hid hT; have HK := hid hK
  clear hB hT hK
  have hSd : (BoxS w3.heap.size (.pointer (some ⟨bb, 0, none⟩)) (.slice pi 6 ci) (.slice pv 6 cv)) s14_2.drew := HT.out.boxS
  have hlt := HT.out.lt
  go_wp2_with fail
  have hbd : Below s14_2.heap.size s14_2 s14_2.drew := ⟨rfl, rfl, rfl, Nat.le_refl _, fun _ _ => rfl⟩
  have hB := HB.out.fr hbd
  have hf := FrB.of_below HB.out.st.c.b hbd
  have hT := HT.out.fr hf; have hK := HK.out.fr hf
  clear HB HT HK hbd
  have HB := hid hB; have HT := hid hT; have HK := hid hK
  clear hB hT hK
  clear hf
  have hFa : ∀ f, Fence.wide.fn f := fun _ => trivial
  refine (wpIn_wide (n := 9)).1 ?_
  refine wpIn_onlyN ?_
  refine wpIn_region_HJ (BoxS w3.heap.size (.pointer (some ⟨bb, 0, none⟩)) (.slice pi 6 ci) (.slice pv 6 cv)) 9 (by kernel_rfl) ?_
  simp only [List.size_toArray, List.length_cons, List.length_nil, Nat.reduceAdd]
  refine wpHJ_pure (v := ?va0) 0 hFa rfl (by kernel_rfl) (fun _ _ _ h => h.elim) (Or.inl ⟨by rfl, ?ya0⟩) (.inr hSd) ?ra0
  case ya0 => (intro w' _; go_simp; try rfl)
  simp only [Act.put, List.getElem_toArray, List.getElem_cons_succ, List.getElem_cons_zero, List.setIfInBounds_toArray, List.set_cons_zero, List.set_cons_succ]
  refine wpHJ_take (v := ?va1) 1 hFa rfl (by kernel_rfl) (fun _ _ _ h => h.elim) (Or.inl ⟨by rfl, ?ya1⟩) hSd ?ra1
  case ya1 => (intro w' hS'; obtain ⟨s1, s2, s3⟩ := hS'; go_simp; try rfl)
  simp only [Act.put, List.getElem_toArray, List.getElem_cons_succ, List.getElem_cons_zero, List.setIfInBounds_toArray, List.set_cons_zero, List.set_cons_succ]
  refine wpHJ_pure (v := ?va2) 2 hFa rfl (by kernel_rfl) (fun _ _ _ h => h.elim) (Or.inl ⟨by rfl, ?ya2⟩) (.inr hSd) ?ra2
  case ya2 => (intro w' _; go_simp; try rfl)
  simp only [Act.put, List.getElem_toArray, List.getElem_cons_succ, List.getElem_cons_zero, List.setIfInBounds_toArray, List.set_cons_zero, List.set_cons_succ]
  refine wpHJ_pure (v := ?va3) 3 hFa rfl (by kernel_rfl) (fun _ _ _ h => h.elim) (Or.inl ⟨by rfl, ?ya3⟩) (.inr hSd) ?ra3
  case ya3 => (intro w' _; go_simp; try rfl)
  simp only [Act.put, List.getElem_toArray, List.getElem_cons_succ, List.getElem_cons_zero, List.setIfInBounds_toArray, List.set_cons_zero, List.set_cons_succ]
  refine wpHJ_pure (v := ?va4) 4 hFa rfl (by kernel_rfl) (fun _ _ _ h => h.elim) (Or.inl ⟨by rfl, ?ya4⟩) (.inr hSd) ?ra4
  case ya4 => (intro w' _; go_simp; try rfl)
  simp only [Act.put, List.getElem_toArray, List.getElem_cons_succ, List.getElem_cons_zero, List.setIfInBounds_toArray, List.set_cons_zero, List.set_cons_succ]
  refine wpHJ_only 5 (by kernel_rfl) rfl ?_
  intro K hK
  go_simp
  have HC := hid (Bas.noAdd (z := 1) (er := 2) (xs := [2, 3, 4]) (ys := ([5, 6, 7] : List Int).take 2) HB.out (HK.out.w (.slice (some ⟨P1, 0, none⟩) 3 3, [2, 3, 4], ax) (by simp)).1 (ints_take (HK.out.w (.slice (some ⟨P2, 0, none⟩) 3 3, [5, 6, 7], ay) (by simp)).1 2 (by omega)) (by decide) (by decide) (by unfold checkM; rw [if_neg (by decide)]))
  (with_reducible refine (callsIn_wide.2 HC.out).mono ?_)
  rintro e w15 ⟨v15, rfl, hB, hf⟩
  have hT := HT.out.fr hf; have hK := HK.out.fr hf
  clear HB HT HK HC
  have HB := hid hB; have HT := hid hT; have HK := hid hK
  clear hB hT hK
  have hSe := HT.out.boxS
  clear hf hSd
  refine hK _ _ (.inr (.inr hSe)) ?_
  clear hK K
  refine wpHJ_pure (v := ?va6) 6 hFa rfl (by kernel_rfl) (fun _ _ _ h => h.elim) (Or.inl ⟨by rfl, ?ya6⟩) (.inr hSe) ?ra6
  case ya6 => (intro w' _; go_simp; try rfl)
  simp only [Act.put, List.getElem_toArray, List.getElem_cons_succ, List.getElem_cons_zero, List.setIfInBounds_toArray, List.set_cons_zero, List.set_cons_succ]
  refine wpHJ_pure (v := ?va7) 7 hFa rfl (by kernel_rfl) (fun _ _ _ h => h.elim) (Or.inl ⟨by rfl, ?ya7⟩) (.inr hSe) ?ra7
  case ya7 => (intro w' _; go_simp; try rfl)
  simp only [Act.put, List.getElem_toArray, List.getElem_cons_succ, List.getElem_cons_zero, List.setIfInBounds_toArray, List.set_cons_zero, List.set_cons_succ]
  refine wpHJ_pure (v := ?va8) 8 hFa rfl (by kernel_rfl) (fun _ _ _ h => h.elim) (Or.inl ⟨by rfl, ?ya8⟩) (.inr hSe) ?ra8
  case ya8 => (intro w' _; go_simp; try rfl)
  simp only [Act.put, List.getElem_toArray, List.getElem_cons_succ, List.getElem_cons_zero, List.setIfInBounds_toArray, List.set_cons_zero, List.set_cons_succ]
  refine wpHJ_only 9 (by kernel_rfl) rfl ?_
  intro K hK
  go_simp
  refine hK _ _ (.inl rfl) ?_
  clear hK K
  refine wpHJ_done (by kernel_rfl) ?_ _
  simp only [onlyN, Exit.then]
  clear hFa
  clear hSe hlt
  have HC := hid (Bas.noAny (er := 2) HB.out (ints_none _ _) (by decide) (by simp) (by unfold checkM; rw [if_neg (by decide)]))
  obtain ⟨b0, b1', b2⟩ := HT.out.boxS
  go_wp2_with fail
  (with_reducible refine HC.out.mono ?_)
  rintro e w16 ⟨v16, rfl, hB, hf⟩
  have hT := HT.out.fr hf; have hK := HK.out.fr hf
  clear HB HT HK HC b0 b1' b2
  have HB := hid hB; have HT := hid hT; have HK := hid hK
  clear hB hT hK
  clear hf
  have hv14 := HB.out.v
  have hv : F14.vars ≤ 1000 := by omega
  clear hv14
  have hSd : (BoxS w3.heap.size (.pointer (some ⟨bb, 0, none⟩)) (.slice pi 6 ci) (.slice pv 6 cv)) w16.drew := HT.out.boxS
  have hlt := HT.out.lt
  go_wp2_with fail
  have hbd : Below w16.heap.size w16 w16.drew := ⟨rfl, rfl, rfl, Nat.le_refl _, fun _ _ => rfl⟩
  have hB := HB.out.fr hbd
  have hf := FrB.of_below HB.out.st.c.b hbd
  have hT := HT.out.fr hf; have hK := HK.out.fr hf
  clear HB HT HK hbd
  have HB := hid hB; have HT := hid hT; have HK := hid hK
  clear hB hT hK
  clear hf
  have hFa : ∀ f, Fence.wide.fn f := fun _ => trivial
  refine (wpIn_wide (n := 9)).1 ?_
  refine wpIn_onlyN ?_
  refine wpIn_region_HJ (BoxS w3.heap.size (.pointer (some ⟨bb, 0, none⟩)) (.slice pi 6 ci) (.slice pv 6 cv)) 13 (by kernel_rfl) ?_
  simp only [List.size_toArray, List.length_cons, List.length_nil, Nat.reduceAdd]
  refine wpHJ_pure (v := ?ve0_1) 0 hFa rfl (by kernel_rfl) (fun _ _ _ h => h.elim) (Or.inl ⟨by rfl, ?ye0_1⟩) (.inr hSd) ?re0_1
  case ye0_1 => (intro w' _; go_simp; try rfl)
  simp only [Act.put, List.getElem_toArray, List.getElem_cons_succ, List.getElem_cons_zero, List.setIfInBounds_toArray, List.set_cons_zero, List.set_cons_succ]
  refine wpHJ_take (v := ?ve1_2) 1 hFa rfl (by kernel_rfl) (fun _ _ _ h => h.elim) (Or.inl ⟨by rfl, ?ye1_2⟩) hSd ?re1_2
  case ye1_2 => (intro w' hS'; obtain ⟨s1, s2, s3⟩ := hS'; go_simp; try rfl)
  simp only [Act.put, List.getElem_toArray, List.getElem_cons_succ, List.getElem_cons_zero, List.setIfInBounds_toArray, List.set_cons_zero, List.set_cons_succ]
  refine wpHJ_pure (v := ?ve3_4) 3 hFa rfl (by kernel_rfl) (fun _ _ _ h => h.elim) (Or.inl ⟨by rfl, ?ye3_4⟩) (.inr hSd) ?re3_4
  case ye3_4 => (intro w' _; go_simp; try rfl)
  simp only [Act.put, List.getElem_toArray, List.getElem_cons_succ, List.getElem_cons_zero, List.setIfInBounds_toArray, List.set_cons_zero, List.set_cons_succ]
  refine wpHJ_take (v := ?ve4_6) 4 hFa rfl (by kernel_rfl) (fun _ _ _ h => h.elim) (Or.inl ⟨by rfl, ?ye4_6⟩) hSd ?re4_6
  case ye4_6 => (intro w' hS'; obtain ⟨s1, s2, s3⟩ := hS'; go_simp; try rfl)
  simp only [Act.put, List.getElem_toArray, List.getElem_cons_succ, List.getElem_cons_zero, List.setIfInBounds_toArray, List.set_cons_zero, List.set_cons_succ]
  refine wpHJ_two 2 5 (by kernel_rfl) rfl rfl ?_ ?_
  · intro K hK
    go_simp
    rw [show (World.alloc w16 (.cells #[.int .i64 2] 3)).drew = World.alloc w16.drew (.cells #[.int .i64 2] 3) from rfl]
    obtain ⟨wa, hwa⟩ : ∃ wa, World.alloc w16.drew (.cells #[.int .i64 2] 3) = wa := ⟨_, rfl⟩
    rw [hwa]
    obtain ⟨hB, hb, hf, hi2, hs⟩ := HB.out.lay [2] 1 rfl (by omega) wa hwa
    have HI2 : Hid (Ints (Away bb wa) wa (.slice (some ⟨w16.heap.size, 0, none⟩) 1 1) [2]) := hid hi2
    have hSwa := (HT.out.fr hf).boxS
    have hT := HT.out.fr hf; have hK := HK.out.fr hf
    clear HB HT HK hwa
    have HB := hid hB; have HT := hid hT; have HK := hid hK
    clear hB hT hK
    clear hb hf hi2 hs
    refine hK _ _ (.inr (.inr hSwa)) ?_
    clear hK K
    refine wpHJ_only 5 (by kernel_rfl) rfl ?_
    intro K hK
    go_simp
    (with_reducible refine (callsIn_wide.2 (formula_any bb _ _ HB.out.st.c.b (good_len HB.out.st.c.good))).mono ?_)
    rintro e wb ⟨vf, rfl, hLL, hb⟩
    clear hLL
    have hB := HB.out.fr hb
    have hf := FrB.of_below HB.out.st.c.b hb
    have hSwb := (HT.out.fr hf).boxS
    have h2' := HI2.out.fr hf
    clear HI2
    have HI2 := hid h2'
    clear h2'
    have hT := HT.out.fr hf; have hK := HK.out.fr hf
    clear HB HT HK hb
    have HB := hid hB; have HT := hid hT; have HK := hid hK
    clear hB hT hK
    clear hf
    refine hK _ _ (.inr (.inr hSwb)) ?_
    clear hK K
    refine wpHJ_pure (v := ?ve6_10) 6 hFa rfl (by kernel_rfl) (fun _ _ _ h => h.elim) (Or.inl ⟨by rfl, ?ye6_10⟩) (.inr hSwb) ?re6_10
    case ye6_10 => (intro w' _; go_simp; try rfl)
    simp only [Act.put, List.getElem_toArray, List.getElem_cons_succ, List.getElem_cons_zero, List.setIfInBounds_toArray, List.set_cons_zero, List.set_cons_succ]
    refine wpHJ_pure (v := ?ve7_11) 7 hFa rfl (by kernel_rfl) (fun _ _ _ h => h.elim) (Or.inl ⟨by rfl, ?ye7_11⟩) (.inr hSwb) ?re7_11
    case ye7_11 => (intro w' _; go_simp; try rfl)
    simp only [Act.put, List.getElem_toArray, List.getElem_cons_succ, List.getElem_cons_zero, List.setIfInBounds_toArray, List.set_cons_zero, List.set_cons_succ]
    refine wpHJ_only 8 (by kernel_rfl) rfl ?_
    intro K hK
    go_simp
    rw [show IntKind.i64.wrap (9 + (F14.vars : Int)) = 9 + (F14.vars : Int) from IntWalk.i64_in _ (by omega)]
    obtain ⟨wc, hwc⟩ : ∃ wc, World.alloc wb (.cells #[.int .i64 (9 + (F14.vars : Int))] 3) = wc := ⟨_, rfl⟩
    rw [hwc]
    obtain ⟨hB, hb, hf, hi2, hs⟩ := HB.out.lay [(9 + (F14.vars : Int))] 1 rfl (by omega) wc hwc
    have h2' := HI2.out.fr hf
    clear HI2
    have HI2 := hid h2'
    clear h2'
    have HI9 : Hid (Ints (Away bb wc) wc (.slice (some ⟨wb.heap.size, 0, none⟩) 1 1) [(9 + (F14.vars : Int))]) := hid hi2
    have hSwc := (HT.out.fr hf).boxS
    have hT := HT.out.fr hf; have hK := HK.out.fr hf
    clear HB HT HK hwc
    have HB := hid hB; have HT := hid hT; have HK := hid hK
    clear hB hT hK
    clear hb hf hi2 hs
    refine hK _ _ (.inr (.inr hSwc)) ?_
    clear hK K
    refine wpHJ_only 9 (by kernel_rfl) rfl ?_
    intro K hK
    go_simp
    have HC := hid (Bas.noEqual (er := 3) HB.out HI2.out HI9.out (by decide) (fun l hl x hx => by
      simp only [List.mem_cons, List.not_mem_nil, or_false] at hl
      rcases hl with rfl | rfl
      · simp only [List.mem_cons, List.not_mem_nil, or_false] at hx; omega
      · simp only [List.mem_cons, List.not_mem_nil, or_false] at hx; omega) (by
      have hno : okLit (F14.vars : Int) (9 + (F14.vars : Int)) = false := by unfold okLit; simp; omega
      unfold checkM
      rw [if_pos (by simp [goodLen]), if_neg (by simp [hasAll, hno])]))
    (with_reducible refine (callsIn_wide.2 HC.out).mono ?_)
    rintro e w17 ⟨v17, rfl, hB, hf⟩
    have hT := HT.out.fr hf; have hK := HK.out.fr hf
    clear HB HT HK HC HI2 HI9
    have HB := hid hB; have HT := hid hT; have HK := hid hK
    clear hB hT hK
    have hS17 := HT.out.boxS
    clear hf
    refine hK _ _ (.inr (.inr hS17)) ?_
    clear hK K
    refine wpHJ_pure (v := ?ve10_14) 10 hFa rfl (by kernel_rfl) (fun _ _ _ h => h.elim) (Or.inl ⟨by rfl, ?ye10_14⟩) (.inr hS17) ?re10_14
    case ye10_14 => (intro w' _; go_simp; try rfl)
    simp only [Act.put, List.getElem_toArray, List.getElem_cons_succ, List.getElem_cons_zero, List.setIfInBounds_toArray, List.set_cons_zero, List.set_cons_succ]
    refine wpHJ_pure (v := ?ve11_15) 11 hFa rfl (by kernel_rfl) (fun _ _ _ h => h.elim) (Or.inl ⟨by rfl, ?ye11_15⟩) (.inr hS17) ?re11_15
    case ye11_15 => (intro w' _; go_simp; try rfl)
    simp only [Act.put, List.getElem_toArray, List.getElem_cons_succ, List.getElem_cons_zero, List.setIfInBounds_toArray, List.set_cons_zero, List.set_cons_succ]
    refine wpHJ_pure (v := ?ve12_16) 12 hFa rfl (by kernel_rfl) (fun _ _ _ h => h.elim) (Or.inl ⟨by rfl, ?ye12_16⟩) (.inr hS17) ?re12_16
    case ye12_16 => (intro w' _; go_simp; try rfl)
    simp only [Act.put, List.getElem_toArray, List.getElem_cons_succ, List.getElem_cons_zero, List.setIfInBounds_toArray, List.set_cons_zero, List.set_cons_succ]
    refine wpHJ_only 13 (by kernel_rfl) rfl ?_
    intro K hK
    go_simp
    refine hK _ _ (.inl rfl) ?_
    clear hK K
    refine wpHJ_done (by kernel_rfl) ?_ _
    simp only [onlyN, Exit.then]
    clear hFa
    clear hS17 hSwa hSwb hSwc hSd hlt
    have HC := hid (Bas.noAdd (z := 0) (er := 3) (xs := [2, 3, 4]) (ys := [5, 6, 7]) HB.out (HK.out.w (.slice (some ⟨P1, 0, none⟩) 3 3, [2, 3, 4], ax) (by simp)).1 (HK.out.w (.slice (some ⟨P2, 0, none⟩) 3 3, [5, 6, 7], ay) (by simp)).1 (by decide) (by decide) (by have h1 : okLit (F14.vars : Int) 0 = false := rfl; unfold checkM; rw [if_pos (by decide), if_neg (by simp [hasAll, h1])]))
    obtain ⟨b0, b1', b2⟩ := HT.out.boxS
    go_wp2_with fail
    (with_reducible refine HC.out.mono ?_)
    rintro e w18 ⟨v18, rfl, hB, hf⟩
    have hT := HT.out.fr hf; have hK := HK.out.fr hf
    clear HB HT HK HC b0 b1' b2
    have HB := hid hB; have HT := hid hT; have HK := hid hK
    clear hB hT hK
    clear hf
    have HC := hid (Bas.noChoose (z := 0) (er := 3) (xs := [2, 3, 4]) (ys := [5, 6, 7]) HB.out (HK.out.w (.slice (some ⟨P1, 0, none⟩) 3 3, [2, 3, 4], ax) (by simp)).1 (HK.out.w (.slice (some ⟨P2, 0, none⟩) 3 3, [5, 6, 7], ay) (by simp)).1 (by decide) (by decide) (by have h1 : okLit (F14.vars : Int) 0 = false := rfl; unfold checkM; rw [if_pos (by decide), if_neg (by simp [hasAll, h1])]))
    obtain ⟨b0, b1', b2⟩ := HT.out.boxS
    go_wp2_with fail
    (with_reducible refine HC.out.mono ?_)
    rintro e w19 ⟨v19, rfl, hB, hf⟩
    have hT := HT.out.fr hf; have hK := HK.out.fr hf
    clear HB HT HK HC b0 b1' b2
    have HB := hid hB; have HT := hid hT; have HK := hid hK
    clear hB hT hK
    clear hf
    have hmk : ∀ w : World, (Instr.makeSlice 23 (.int .i64 65) (.int .i64 65)).run Try.prog w = .ok (.slice (some ⟨w.heap.size, 0, none⟩) 65 65) (w.alloc (.cells (Array.replicate 65 (.int .i64 0)) 3)) := fun w =>
      make_run (P := Try.prog) Try.underlying23 info_int rfl 65 (by omega) (by omega) w
    have hSd : (BoxS w3.heap.size (.pointer (some ⟨bb, 0, none⟩)) (.slice pi 6 ci) (.slice pv 6 cv)) w19.drew := HT.out.boxS
    have hlt := HT.out.lt
    go_wp2_with fail
    have hbd : Below w19.heap.size w19 w19.drew := ⟨rfl, rfl, rfl, Nat.le_refl _, fun _ _ => rfl⟩
    have hB := HB.out.fr hbd
    have hf := FrB.of_below HB.out.st.c.b hbd
    have hT := HT.out.fr hf; have hK := HK.out.fr hf
    clear HB HT HK hbd
    have HB := hid hB; have HT := hid hT; have HK := hid hK
    clear hB hT hK
    clear hf
    have hFa : ∀ f, Fence.wide.fn f := fun _ => trivial
    refine (wpIn_wide (n := 9)).1 ?_
    refine wpIn_onlyN ?_
    refine wpIn_region_HJ (BoxS w3.heap.size (.pointer (some ⟨bb, 0, none⟩)) (.slice pi 6 ci) (.slice pv 6 cv)) 9 (by kernel_rfl) ?_
    simp only [List.size_toArray, List.length_cons, List.length_nil, Nat.reduceAdd]
    refine wpHJ_pure (v := ?vg25890_1) 0 hFa rfl (by kernel_rfl) (fun _ _ _ h => h.elim) (Or.inl ⟨by rfl, ?yg25890_1⟩) (.inr hSd) ?rg25890_1
    case yg25890_1 => (intro w' _; go_simp; try rfl)
    simp only [Act.put, List.getElem_toArray, List.getElem_cons_succ, List.getElem_cons_zero, List.setIfInBounds_toArray, List.set_cons_zero, List.set_cons_succ]
    refine wpHJ_take (v := ?vg25891_2) 1 hFa rfl (by kernel_rfl) (fun _ _ _ h => h.elim) (Or.inl ⟨by rfl, ?yg25891_2⟩) hSd ?rg25891_2
    case yg25891_2 => (intro w' hS'; obtain ⟨s1, s2, s3⟩ := hS'; go_simp; try rfl)
    simp only [Act.put, List.getElem_toArray, List.getElem_cons_succ, List.getElem_cons_zero, List.setIfInBounds_toArray, List.set_cons_zero, List.set_cons_succ]
    refine wpHJ_two 2 3 (by kernel_rfl) rfl rfl ?_ ?_
    · intro K hK
      go_simp
      rw [show (World.alloc w19 (.cells (Array.replicate 65 (.int .i64 0)) 3)).drew = World.alloc w19.drew (.cells (Array.replicate 65 (.int .i64 0)) 3) from rfl]
      obtain ⟨x1, hx1⟩ : ∃ x1, World.alloc w19.drew (.cells (Array.replicate 65 (.int .i64 0)) 3) = x1 := ⟨_, rfl⟩
      rw [hx1]
      obtain ⟨hB, hb, hf, hi2, hs⟩ := HB.out.lay (List.replicate 65 0) 65 rfl (by omega) x1 (by rw [← hx1]; rfl)
      have HJ1 : Hid (Ints (Away bb x1) x1 (.slice (some ⟨w19.heap.size, 0, none⟩) 65 65) (List.replicate 65 0)) := hid hi2
      have hSx1 := (HT.out.fr hf).boxS
      have hT := HT.out.fr hf; have hK := HK.out.fr hf
      clear HB HT HK hx1
      have HB := hid hB; have HT := hid hT; have HK := hid hK
      clear hB hT hK
      clear hb hf hi2 hs
      refine hK _ _ (.inr (.inr hSx1)) ?_
      clear hK K
      refine wpHJ_only 3 (by kernel_rfl) rfl ?_
      intro K hK
      go_simp
      obtain ⟨x2, hx2⟩ : ∃ x2, World.alloc x1 (.cells (Array.replicate 65 (.int .i64 0)) 3) = x2 := ⟨_, rfl⟩
      rw [hx2]
      obtain ⟨hB, hb, hf, hi2, hs⟩ := HB.out.lay (List.replicate 65 0) 65 rfl (by omega) x2 (by rw [← hx2]; rfl)
      have h2' := HJ1.out.fr hf
      clear HJ1
      have HJ1 := hid h2'
      clear h2'
      have HJ2 : Hid (Ints (Away bb x2) x2 (.slice (some ⟨x1.heap.size, 0, none⟩) 65 65) (List.replicate 65 0)) := hid hi2
      have hSx2 := (HT.out.fr hf).boxS
      have hT := HT.out.fr hf; have hK := HK.out.fr hf
      clear HB HT HK hx2
      have HB := hid hB; have HT := hid hT; have HK := hid hK
      clear hB hT hK
      clear hb hf hi2 hs
      refine hK _ _ (.inr (.inr hSx2)) ?_
      clear hK K
      refine wpHJ_only 4 (by kernel_rfl) rfl ?_
      intro K hK
      go_simp
      have HC := hid (Bas.noSub (er := 2) HB.out HJ1.out HJ2.out (by decide) (fun l hl x hx => by
        simp only [List.mem_cons, List.not_mem_nil, or_false] at hl
        rcases hl with rfl | rfl <;> (rw [List.eq_of_mem_replicate hx]; omega)) (by rw [List.length_replicate]; omega) (by unfold checkM; rw [if_neg (by decide)]))
      (with_reducible refine (callsIn_wide.2 HC.out).mono ?_)
      rintro e w20 ⟨v20, rfl, hB, hf⟩
      have hT := HT.out.fr hf; have hK := HK.out.fr hf
      clear HB HT HK HC HJ1 HJ2
      have HB := hid hB; have HT := hid hT; have HK := hid hK
      clear hB hT hK
      have hS20 := HT.out.boxS
      clear hf
      refine hK _ _ (.inr (.inr hS20)) ?_
      clear hK K
      refine wpHJ_pure (v := ?vg25895_7) 5 hFa rfl (by kernel_rfl) (fun _ _ _ h => h.elim) (Or.inl ⟨by rfl, ?yg25895_7⟩) (.inr hS20) ?rg25895_7
      case yg25895_7 => (intro w' _; go_simp; try rfl)
      simp only [Act.put, List.getElem_toArray, List.getElem_cons_succ, List.getElem_cons_zero, List.setIfInBounds_toArray, List.set_cons_zero, List.set_cons_succ]
      refine wpHJ_pure (v := ?vg25896_8) 6 hFa rfl (by kernel_rfl) (fun _ _ _ h => h.elim) (Or.inl ⟨by rfl, ?yg25896_8⟩) (.inr hS20) ?rg25896_8
      case yg25896_8 => (intro w' _; go_simp; try rfl)
      simp only [Act.put, List.getElem_toArray, List.getElem_cons_succ, List.getElem_cons_zero, List.setIfInBounds_toArray, List.set_cons_zero, List.set_cons_succ]
      refine wpHJ_pure (v := ?vg25897_9) 7 hFa rfl (by kernel_rfl) (fun _ _ _ h => h.elim) (Or.inl ⟨by rfl, ?yg25897_9⟩) (.inr hS20) ?rg25897_9
      case yg25897_9 => (intro w' _; go_simp; try rfl)
      simp only [Act.put, List.getElem_toArray, List.getElem_cons_succ, List.getElem_cons_zero, List.setIfInBounds_toArray, List.set_cons_zero, List.set_cons_succ]
      refine wpHJ_pure (v := ?vg25898_10) 8 hFa rfl (by kernel_rfl) (fun _ _ _ h => h.elim) (Or.inl ⟨by rfl, ?yg25898_10⟩) (.inr hS20) ?rg25898_10
      case yg25898_10 => (intro w' _; go_simp; try rfl)
      simp only [Act.put, List.getElem_toArray, List.getElem_cons_succ, List.getElem_cons_zero, List.setIfInBounds_toArray, List.set_cons_zero, List.set_cons_succ]
      refine wpHJ_only 9 (by kernel_rfl) rfl ?_
      intro K hK
      go_simp
      refine hK _ _ (.inl rfl) ?_
      clear hK K
      refine wpHJ_done (by kernel_rfl) ?_ _
      simp only [onlyN, Exit.then]
      clear hFa
      clear hS20 hSx1 hSx2 hSd hlt hmk
      have HC := hid (Bas.noLess (sg := true) (er := 2) HB.out (ints_none _ _) (ints_none _ _) (by decide) (by simp) (by unfold checkM; rw [if_neg (by decide)]))
      obtain ⟨b0, b1', b2⟩ := HT.out.boxS
      go_wp2_with fail
      (with_reducible refine HC.out.mono ?_)
      rintro e w21 ⟨v21, rfl, hB, hf⟩
      have hT := HT.out.fr hf; have hK := HK.out.fr hf
      clear HB HT HK HC b0 b1' b2
      have HB := hid hB; have HT := hid hT; have HK := hid hK
      clear hB hT hK
      clear hf
      have HBF := hid HB.out.st.fr
      clear HB HT HK hv
      go_wp2_with fail
      (with_reducible refine (add_nil _ _ _ _ _ _ _ _).mono ?_)
      rintro e y0 ⟨rfl, hb⟩
      have hb2 := below_tr HBF.out hb
      clear hb HBF
      have HN0 := hid hb2
      clear hb2
      go_wp2_with fail
      (with_reducible refine (sub_nil _ _ _ _ _ _ _).mono ?_)
      rintro e y1 ⟨rfl, hb⟩
      have hb2 := below_tr HN0.out hb
      clear hb HN0
      have HN1 := hid hb2
      clear hb2
      go_wp2_with fail
      (with_reducible refine (equal_nil _ _ _ _ _ _ _).mono ?_)
      rintro e y2 ⟨rfl, hb⟩
      have hb2 := below_tr HN1.out hb
      clear hb HN1
      have HN2 := hid hb2
      clear hb2
      go_wp2_with fail
      (with_reducible refine (less_nil _ _ _ _ _ _ _ _).mono ?_)
      rintro e y3 ⟨rfl, hb⟩
      have hb2 := below_tr HN2.out hb
      clear hb HN2
      have HN3 := hid hb2
      clear hb2
      go_wp2_with fail
      (with_reducible refine (choose_nil _ _ _ _ _ _ _ _).mono ?_)
      rintro e y4 ⟨rfl, hb⟩
      have hb2 := below_tr HN3.out hb
      clear hb HN3
      have HN4 := hid hb2
      clear hb2
      go_wp2_with fail
      (with_reducible refine (any_nil _ _ _ _).mono ?_)
      rintro e y5 ⟨rfl, hb⟩
      have hb2 := below_tr HN4.out hb
      clear hb HN4
      have HN5 := hid hb2
      clear hb2
      go_wp2_with (go_at_call 30; refine (awake_any _).mono ?_; rintro e wz ⟨rfl, hbz⟩)
      go_ret
      exact ⟨rfl, below_tr HN5.out hbz⟩
    · intro K hK
      go_simp
      rw [show (World.alloc w19 (.cells (Array.replicate 65 (.int .i64 0)) 3)).drew = World.alloc w19.drew (.cells (Array.replicate 65 (.int .i64 0)) 3) from rfl]
      obtain ⟨x1, hx1⟩ : ∃ x1, World.alloc w19.drew (.cells (Array.replicate 65 (.int .i64 0)) 3) = x1 := ⟨_, rfl⟩
      rw [hx1]
      obtain ⟨hB, hb, hf, hi2, hs⟩ := HB.out.lay (List.replicate 65 0) 65 rfl (by omega) x1 (by rw [← hx1]; rfl)
      have HJ1 : Hid (Ints (Away bb x1) x1 (.slice (some ⟨w19.heap.size, 0, none⟩) 65 65) (List.replicate 65 0)) := hid hi2
      have hSx1 := (HT.out.fr hf).boxS
      have hT := HT.out.fr hf; have hK := HK.out.fr hf
      clear HB HT HK hx1
      have HB := hid hB; have HT := hid hT; have HK := hid hK
      clear hB hT hK
      clear hb hf hi2 hs
      refine hK _ _ (.inr (.inr hSx1)) ?_
      clear hK K
      refine wpHJ_only 2 (by kernel_rfl) rfl ?_
      intro K hK
      go_simp
      obtain ⟨x2, hx2⟩ : ∃ x2, World.alloc x1 (.cells (Array.replicate 65 (.int .i64 0)) 3) = x2 := ⟨_, rfl⟩
      rw [hx2]
      obtain ⟨hB, hb, hf, hi2, hs⟩ := HB.out.lay (List.replicate 65 0) 65 rfl (by omega) x2 (by rw [← hx2]; rfl)
      have h2' := HJ1.out.fr hf
      clear HJ1
      have HJ1 := hid h2'
      clear h2'
      have HJ2 : Hid (Ints (Away bb x2) x2 (.slice (some ⟨x1.heap.size, 0, none⟩) 65 65) (List.replicate 65 0)) := hid hi2
      have hSx2 := (HT.out.fr hf).boxS
      have hT := HT.out.fr hf; have hK := HK.out.fr hf
      clear HB HT HK hx2
      have HB := hid hB; have HT := hid hT; have HK := hid hK
      clear hB hT hK
      clear hb hf hi2 hs
      refine hK _ _ (.inr (.inr hSx2)) ?_
      clear hK K
      refine wpHJ_only 4 (by kernel_rfl) rfl ?_
      intro K hK
      go_simp
      have HC := hid (Bas.noSub (er := 2) HB.out HJ2.out HJ1.out (by decide) (fun l hl x hx => by
        simp only [List.mem_cons, List.not_mem_nil, or_false] at hl
        rcases hl with rfl | rfl <;> (rw [List.eq_of_mem_replicate hx]; omega)) (by rw [List.length_replicate]; omega) (by unfold checkM; rw [if_neg (by decide)]))
      (with_reducible refine (callsIn_wide.2 HC.out).mono ?_)
      rintro e w20 ⟨v20, rfl, hB, hf⟩
      have hT := HT.out.fr hf; have hK := HK.out.fr hf
      clear HB HT HK HC HJ1 HJ2
      have HB := hid hB; have HT := hid hT; have HK := hid hK
      clear hB hT hK
      have hS20 := HT.out.boxS
      clear hf
      refine hK _ _ (.inr (.inr hS20)) ?_
      clear hK K
      refine wpHJ_pure (v := ?vg25895_14) 5 hFa rfl (by kernel_rfl) (fun _ _ _ h => h.elim) (Or.inl ⟨by rfl, ?yg25895_14⟩) (.inr hS20) ?rg25895_14
      case yg25895_14 => (intro w' _; go_simp; try rfl)
      simp only [Act.put, List.getElem_toArray, List.getElem_cons_succ, List.getElem_cons_zero, List.setIfInBounds_toArray, List.set_cons_zero, List.set_cons_succ]
      refine wpHJ_pure (v := ?vg25896_15) 6 hFa rfl (by kernel_rfl) (fun _ _ _ h => h.elim) (Or.inl ⟨by rfl, ?yg25896_15⟩) (.inr hS20) ?rg25896_15
      case yg25896_15 => (intro w' _; go_simp; try rfl)
      simp only [Act.put, List.getElem_toArray, List.getElem_cons_succ, List.getElem_cons_zero, List.setIfInBounds_toArray, List.set_cons_zero, List.set_cons_succ]
      refine wpHJ_pure (v := ?vg25897_16) 7 hFa rfl (by kernel_rfl) (fun _ _ _ h => h.elim) (Or.inl ⟨by rfl, ?yg25897_16⟩) (.inr hS20) ?rg25897_16
      case yg25897_16 => (intro w' _; go_simp; try rfl)
      simp only [Act.put, List.getElem_toArray, List.getElem_cons_succ, List.getElem_cons_zero, List.setIfInBounds_toArray, List.set_cons_zero, List.set_cons_succ]
      refine wpHJ_pure (v := ?vg25898_17) 8 hFa rfl (by kernel_rfl) (fun _ _ _ h => h.elim) (Or.inl ⟨by rfl, ?yg25898_17⟩) (.inr hS20) ?rg25898_17
      case yg25898_17 => (intro w' _; go_simp; try rfl)
      simp only [Act.put, List.getElem_toArray, List.getElem_cons_succ, List.getElem_cons_zero, List.setIfInBounds_toArray, List.set_cons_zero, List.set_cons_succ]
      refine wpHJ_only 9 (by kernel_rfl) rfl ?_
      intro K hK
      go_simp
      refine hK _ _ (.inl rfl) ?_
      clear hK K
      refine wpHJ_done (by kernel_rfl) ?_ _
      simp only [onlyN, Exit.then]
      clear hFa
      clear hS20 hSx1 hSx2 hSd hlt hmk
      have HC := hid (Bas.noLess (sg := true) (er := 2) HB.out (ints_none _ _) (ints_none _ _) (by decide) (by simp) (by unfold checkM; rw [if_neg (by decide)]))
      obtain ⟨b0, b1', b2⟩ := HT.out.boxS
      go_wp2_with fail
      (with_reducible refine HC.out.mono ?_)
      rintro e w21 ⟨v21, rfl, hB, hf⟩
      have hT := HT.out.fr hf; have hK := HK.out.fr hf
      clear HB HT HK HC b0 b1' b2
      have HB := hid hB; have HT := hid hT; have HK := hid hK
      clear hB hT hK
      clear hf
      have HBF := hid HB.out.st.fr
      clear HB HT HK hv
      go_wp2_with fail
      (with_reducible refine (add_nil _ _ _ _ _ _ _ _).mono ?_)
      rintro e y0 ⟨rfl, hb⟩
      have hb2 := below_tr HBF.out hb
      clear hb HBF
      have HN0 := hid hb2
      clear hb2
      go_wp2_with fail
      (with_reducible refine (sub_nil _ _ _ _ _ _ _).mono ?_)
      rintro e y1 ⟨rfl, hb⟩
      have hb2 := below_tr HN0.out hb
      clear hb HN0
      have HN1 := hid hb2
      clear hb2
      go_wp2_with fail
      (with_reducible refine (equal_nil _ _ _ _ _ _ _).mono ?_)
      rintro e y2 ⟨rfl, hb⟩
      have hb2 := below_tr HN1.out hb
      clear hb HN1
      have HN2 := hid hb2
      clear hb2
      go_wp2_with fail
      (with_reducible refine (less_nil _ _ _ _ _ _ _ _).mono ?_)
      rintro e y3 ⟨rfl, hb⟩
      have hb2 := below_tr HN2.out hb
      clear hb HN2
      have HN3 := hid hb2
      clear hb2
      go_wp2_with fail
      (with_reducible refine (choose_nil _ _ _ _ _ _ _ _).mono ?_)
      rintro e y4 ⟨rfl, hb⟩
      have hb2 := below_tr HN3.out hb
      clear hb HN3
      have HN4 := hid hb2
      clear hb2
      go_wp2_with fail
      (with_reducible refine (any_nil _ _ _ _).mono ?_)
      rintro e y5 ⟨rfl, hb⟩
      have hb2 := below_tr HN4.out hb
      clear hb HN4
      have HN5 := hid hb2
      clear hb2
      go_wp2_with (go_at_call 30; refine (awake_any _).mono ?_; rintro e wz ⟨rfl, hbz⟩)
      go_ret
      exact ⟨rfl, below_tr HN5.out hbz⟩
  · intro K hK
    go_simp
    (with_reducible refine (callsIn_wide.2 (formula_any bb _ _ HB.out.st.c.b (good_len HB.out.st.c.good))).mono ?_)
    rintro e wa ⟨vf, rfl, hLL, hb⟩
    clear hLL
    have hB := HB.out.fr hb
    have hf := FrB.of_below HB.out.st.c.b hb
    have hSwa := (HT.out.fr hf).boxS
    have hT := HT.out.fr hf; have hK := HK.out.fr hf
    clear HB HT HK hb
    have HB := hid hB; have HT := hid hT; have HK := hid hK
    clear hB hT hK
    clear hf
    refine hK _ _ (.inr (.inr hSwa)) ?_
    clear hK K
    refine wpHJ_pure (v := ?ve6_19) 6 hFa rfl (by kernel_rfl) (fun _ _ _ h => h.elim) (Or.inl ⟨by rfl, ?ye6_19⟩) (.inr hSwa) ?re6_19
    case ye6_19 => (intro w' _; go_simp; try rfl)
    simp only [Act.put, List.getElem_toArray, List.getElem_cons_succ, List.getElem_cons_zero, List.setIfInBounds_toArray, List.set_cons_zero, List.set_cons_succ]
    refine wpHJ_pure (v := ?ve7_21) 7 hFa rfl (by kernel_rfl) (fun _ _ _ h => h.elim) (Or.inl ⟨by rfl, ?ye7_21⟩) (.inr hSwa) ?re7_21
    case ye7_21 => (intro w' _; go_simp; try rfl)
    simp only [Act.put, List.getElem_toArray, List.getElem_cons_succ, List.getElem_cons_zero, List.setIfInBounds_toArray, List.set_cons_zero, List.set_cons_succ]
    refine wpHJ_two 2 8 (by kernel_rfl) rfl rfl ?_ ?_
    · intro K hK
      go_simp
      obtain ⟨wb, hwb⟩ : ∃ wb, World.alloc wa (.cells #[.int .i64 2] 3) = wb := ⟨_, rfl⟩
      rw [hwb]
      obtain ⟨hB, hb, hf, hi2, hs⟩ := HB.out.lay [2] 1 rfl (by omega) wb hwb
      have HI2 : Hid (Ints (Away bb wb) wb (.slice (some ⟨wa.heap.size, 0, none⟩) 1 1) [2]) := hid hi2
      have hSwb := (HT.out.fr hf).boxS
      have hT := HT.out.fr hf; have hK := HK.out.fr hf
      clear HB HT HK hwb
      have HB := hid hB; have HT := hid hT; have HK := hid hK
      clear hB hT hK
      clear hb hf hi2 hs
      refine hK _ _ (.inr (.inr hSwb)) ?_
      clear hK K
      refine wpHJ_only 8 (by kernel_rfl) rfl ?_
      intro K hK
      go_simp
      rw [show IntKind.i64.wrap (9 + (F14.vars : Int)) = 9 + (F14.vars : Int) from IntWalk.i64_in _ (by omega)]
      obtain ⟨wc, hwc⟩ : ∃ wc, World.alloc wb (.cells #[.int .i64 (9 + (F14.vars : Int))] 3) = wc := ⟨_, rfl⟩
      rw [hwc]
      obtain ⟨hB, hb, hf, hi2, hs⟩ := HB.out.lay [(9 + (F14.vars : Int))] 1 rfl (by omega) wc hwc
      have h2' := HI2.out.fr hf
      clear HI2
      have HI2 := hid h2'
      clear h2'
      have HI9 : Hid (Ints (Away bb wc) wc (.slice (some ⟨wb.heap.size, 0, none⟩) 1 1) [(9 + (F14.vars : Int))]) := hid hi2
      have hSwc := (HT.out.fr hf).boxS
      have hT := HT.out.fr hf; have hK := HK.out.fr hf
      clear HB HT HK hwc
      have HB := hid hB; have HT := hid hT; have HK := hid hK
      clear hB hT hK
      clear hb hf hi2 hs
      refine hK _ _ (.inr (.inr hSwc)) ?_
      clear hK K
      refine wpHJ_only 9 (by kernel_rfl) rfl ?_
      intro K hK
      go_simp
      have HC := hid (Bas.noEqual (er := 3) HB.out HI2.out HI9.out (by decide) (fun l hl x hx => by
        simp only [List.mem_cons, List.not_mem_nil, or_false] at hl
        rcases hl with rfl | rfl
        · simp only [List.mem_cons, List.not_mem_nil, or_false] at hx; omega
        · simp only [List.mem_cons, List.not_mem_nil, or_false] at hx; omega) (by
        have hno : okLit (F14.vars : Int) (9 + (F14.vars : Int)) = false := by unfold okLit; simp; omega
        unfold checkM
        rw [if_pos (by simp [goodLen]), if_neg (by simp [hasAll, hno])]))
      (with_reducible refine (callsIn_wide.2 HC.out).mono ?_)
      rintro e w17 ⟨v17, rfl, hB, hf⟩
      have hT := HT.out.fr hf; have hK := HK.out.fr hf
      clear HB HT HK HC HI2 HI9
      have HB := hid hB; have HT := hid hT; have HK := hid hK
      clear hB hT hK
      have hS17 := HT.out.boxS
      clear hf
      refine hK _ _ (.inr (.inr hS17)) ?_
      clear hK K
      refine wpHJ_pure (v := ?ve10_26) 10 hFa rfl (by kernel_rfl) (fun _ _ _ h => h.elim) (Or.inl ⟨by rfl, ?ye10_26⟩) (.inr hS17) ?re10_26
      case ye10_26 => (intro w' _; go_simp; try rfl)
      simp only [Act.put, List.getElem_toArray, List.getElem_cons_succ, List.getElem_cons_zero, List.setIfInBounds_toArray, List.set_cons_zero, List.set_cons_succ]
      refine wpHJ_pure (v := ?ve11_27) 11 hFa rfl (by kernel_rfl) (fun _ _ _ h => h.elim) (Or.inl ⟨by rfl, ?ye11_27⟩) (.inr hS17) ?re11_27
      case ye11_27 => (intro w' _; go_simp; try rfl)
      simp only [Act.put, List.getElem_toArray, List.getElem_cons_succ, List.getElem_cons_zero, List.setIfInBounds_toArray, List.set_cons_zero, List.set_cons_succ]
      refine wpHJ_pure (v := ?ve12_28) 12 hFa rfl (by kernel_rfl) (fun _ _ _ h => h.elim) (Or.inl ⟨by rfl, ?ye12_28⟩) (.inr hS17) ?re12_28
      case ye12_28 => (intro w' _; go_simp; try rfl)
      simp only [Act.put, List.getElem_toArray, List.getElem_cons_succ, List.getElem_cons_zero, List.setIfInBounds_toArray, List.set_cons_zero, List.set_cons_succ]
      refine wpHJ_only 13 (by kernel_rfl) rfl ?_
      intro K hK
      go_simp
      refine hK _ _ (.inl rfl) ?_
      clear hK K
      refine wpHJ_done (by kernel_rfl) ?_ _
      simp only [onlyN, Exit.then]
      clear hFa
      clear hS17 hSwa hSwb hSwc hSd hlt
      have HC := hid (Bas.noAdd (z := 0) (er := 3) (xs := [2, 3, 4]) (ys := [5, 6, 7]) HB.out (HK.out.w (.slice (some ⟨P1, 0, none⟩) 3 3, [2, 3, 4], ax) (by simp)).1 (HK.out.w (.slice (some ⟨P2, 0, none⟩) 3 3, [5, 6, 7], ay) (by simp)).1 (by decide) (by decide) (by have h1 : okLit (F14.vars : Int) 0 = false := rfl; unfold checkM; rw [if_pos (by decide), if_neg (by simp [hasAll, h1])]))
      obtain ⟨b0, b1', b2⟩ := HT.out.boxS
      go_wp2_with fail
      (with_reducible refine HC.out.mono ?_)
      rintro e w18 ⟨v18, rfl, hB, hf⟩
      have hT := HT.out.fr hf; have hK := HK.out.fr hf
      clear HB HT HK HC b0 b1' b2
      have HB := hid hB; have HT := hid hT; have HK := hid hK
      clear hB hT hK
      clear hf
      have HC := hid (Bas.noChoose (z := 0) (er := 3) (xs := [2, 3, 4]) (ys := [5, 6, 7]) HB.out (HK.out.w (.slice (some ⟨P1, 0, none⟩) 3 3, [2, 3, 4], ax) (by simp)).1 (HK.out.w (.slice (some ⟨P2, 0, none⟩) 3 3, [5, 6, 7], ay) (by simp)).1 (by decide) (by decide) (by have h1 : okLit (F14.vars : Int) 0 = false := rfl; unfold checkM; rw [if_pos (by decide), if_neg (by simp [hasAll, h1])]))
      obtain ⟨b0, b1', b2⟩ := HT.out.boxS
      go_wp2_with fail
      (with_reducible refine HC.out.mono ?_)
      rintro e w19 ⟨v19, rfl, hB, hf⟩
      have hT := HT.out.fr hf; have hK := HK.out.fr hf
      clear HB HT HK HC b0 b1' b2
      have HB := hid hB; have HT := hid hT; have HK := hid hK
      clear hB hT hK
      clear hf
      have hmk : ∀ w : World, (Instr.makeSlice 23 (.int .i64 65) (.int .i64 65)).run Try.prog w = .ok (.slice (some ⟨w.heap.size, 0, none⟩) 65 65) (w.alloc (.cells (Array.replicate 65 (.int .i64 0)) 3)) := fun w =>
        make_run (P := Try.prog) Try.underlying23 info_int rfl 65 (by omega) (by omega) w
      have hSd : (BoxS w3.heap.size (.pointer (some ⟨bb, 0, none⟩)) (.slice pi 6 ci) (.slice pv 6 cv)) w19.drew := HT.out.boxS
      have hlt := HT.out.lt
      go_wp2_with fail
      have hbd : Below w19.heap.size w19 w19.drew := ⟨rfl, rfl, rfl, Nat.le_refl _, fun _ _ => rfl⟩
      have hB := HB.out.fr hbd
      have hf := FrB.of_below HB.out.st.c.b hbd
      have hT := HT.out.fr hf; have hK := HK.out.fr hf
      clear HB HT HK hbd
      have HB := hid hB; have HT := hid hT; have HK := hid hK
      clear hB hT hK
      clear hf
      have hFa : ∀ f, Fence.wide.fn f := fun _ => trivial
      refine (wpIn_wide (n := 9)).1 ?_
      refine wpIn_onlyN ?_
      refine wpIn_region_HJ (BoxS w3.heap.size (.pointer (some ⟨bb, 0, none⟩)) (.slice pi 6 ci) (.slice pv 6 cv)) 9 (by kernel_rfl) ?_
      simp only [List.size_toArray, List.length_cons, List.length_nil, Nat.reduceAdd]
      refine wpHJ_pure (v := ?vg52890_1) 0 hFa rfl (by kernel_rfl) (fun _ _ _ h => h.elim) (Or.inl ⟨by rfl, ?yg52890_1⟩) (.inr hSd) ?rg52890_1
      case yg52890_1 => (intro w' _; go_simp; try rfl)
      simp only [Act.put, List.getElem_toArray, List.getElem_cons_succ, List.getElem_cons_zero, List.setIfInBounds_toArray, List.set_cons_zero, List.set_cons_succ]
      refine wpHJ_take (v := ?vg52891_2) 1 hFa rfl (by kernel_rfl) (fun _ _ _ h => h.elim) (Or.inl ⟨by rfl, ?yg52891_2⟩) hSd ?rg52891_2
      case yg52891_2 => (intro w' hS'; obtain ⟨s1, s2, s3⟩ := hS'; go_simp; try rfl)
      simp only [Act.put, List.getElem_toArray, List.getElem_cons_succ, List.getElem_cons_zero, List.setIfInBounds_toArray, List.set_cons_zero, List.set_cons_succ]
      refine wpHJ_two 2 3 (by kernel_rfl) rfl rfl ?_ ?_
      · intro K hK
        go_simp
        rw [show (World.alloc w19 (.cells (Array.replicate 65 (.int .i64 0)) 3)).drew = World.alloc w19.drew (.cells (Array.replicate 65 (.int .i64 0)) 3) from rfl]
        obtain ⟨x1, hx1⟩ : ∃ x1, World.alloc w19.drew (.cells (Array.replicate 65 (.int .i64 0)) 3) = x1 := ⟨_, rfl⟩
        rw [hx1]
        obtain ⟨hB, hb, hf, hi2, hs⟩ := HB.out.lay (List.replicate 65 0) 65 rfl (by omega) x1 (by rw [← hx1]; rfl)
        have HJ1 : Hid (Ints (Away bb x1) x1 (.slice (some ⟨w19.heap.size, 0, none⟩) 65 65) (List.replicate 65 0)) := hid hi2
        have hSx1 := (HT.out.fr hf).boxS
        have hT := HT.out.fr hf; have hK := HK.out.fr hf
        clear HB HT HK hx1
        have HB := hid hB; have HT := hid hT; have HK := hid hK
        clear hB hT hK
        clear hb hf hi2 hs
        refine hK _ _ (.inr (.inr hSx1)) ?_
        clear hK K
        refine wpHJ_only 3 (by kernel_rfl) rfl ?_
        intro K hK
        go_simp
        obtain ⟨x2, hx2⟩ : ∃ x2, World.alloc x1 (.cells (Array.replicate 65 (.int .i64 0)) 3) = x2 := ⟨_, rfl⟩
        rw [hx2]
        obtain ⟨hB, hb, hf, hi2, hs⟩ := HB.out.lay (List.replicate 65 0) 65 rfl (by omega) x2 (by rw [← hx2]; rfl)
        have h2' := HJ1.out.fr hf
        clear HJ1
        have HJ1 := hid h2'
        clear h2'
        have HJ2 : Hid (Ints (Away bb x2) x2 (.slice (some ⟨x1.heap.size, 0, none⟩) 65 65) (List.replicate 65 0)) := hid hi2
        have hSx2 := (HT.out.fr hf).boxS
        have hT := HT.out.fr hf; have hK := HK.out.fr hf
        clear HB HT HK hx2
        have HB := hid hB; have HT := hid hT; have HK := hid hK
        clear hB hT hK
        clear hb hf hi2 hs
        refine hK _ _ (.inr (.inr hSx2)) ?_
        clear hK K
        refine wpHJ_only 4 (by kernel_rfl) rfl ?_
        intro K hK
        go_simp
        have HC := hid (Bas.noSub (er := 2) HB.out HJ1.out HJ2.out (by decide) (fun l hl x hx => by
          simp only [List.mem_cons, List.not_mem_nil, or_false] at hl
          rcases hl with rfl | rfl <;> (rw [List.eq_of_mem_replicate hx]; omega)) (by rw [List.length_replicate]; omega) (by unfold checkM; rw [if_neg (by decide)]))
        (with_reducible refine (callsIn_wide.2 HC.out).mono ?_)
        rintro e w20 ⟨v20, rfl, hB, hf⟩
        have hT := HT.out.fr hf; have hK := HK.out.fr hf
        clear HB HT HK HC HJ1 HJ2
        have HB := hid hB; have HT := hid hT; have HK := hid hK
        clear hB hT hK
        have hS20 := HT.out.boxS
        clear hf
        refine hK _ _ (.inr (.inr hS20)) ?_
        clear hK K
        refine wpHJ_pure (v := ?vg52895_7) 5 hFa rfl (by kernel_rfl) (fun _ _ _ h => h.elim) (Or.inl ⟨by rfl, ?yg52895_7⟩) (.inr hS20) ?rg52895_7
        case yg52895_7 => (intro w' _; go_simp; try rfl)
        simp only [Act.put, List.getElem_toArray, List.getElem_cons_succ, List.getElem_cons_zero, List.setIfInBounds_toArray, List.set_cons_zero, List.set_cons_succ]
        refine wpHJ_pure (v := ?vg52896_8) 6 hFa rfl (by kernel_rfl) (fun _ _ _ h => h.elim) (Or.inl ⟨by rfl, ?yg52896_8⟩) (.inr hS20) ?rg52896_8
        case yg52896_8 => (intro w' _; go_simp; try rfl)
        simp only [Act.put, List.getElem_toArray, List.getElem_cons_succ, List.getElem_cons_zero, List.setIfInBounds_toArray, List.set_cons_zero, List.set_cons_succ]
        refine wpHJ_pure (v := ?vg52897_9) 7 hFa rfl (by kernel_rfl) (fun _ _ _ h => h.elim) (Or.inl ⟨by rfl, ?yg52897_9⟩) (.inr hS20) ?rg52897_9
        case yg52897_9 => (intro w' _; go_simp; try rfl)
        simp only [Act.put, List.getElem_toArray, List.getElem_cons_succ, List.getElem_cons_zero, List.setIfInBounds_toArray, List.set_cons_zero, List.set_cons_succ]
        refine wpHJ_pure (v := ?vg52898_10) 8 hFa rfl (by kernel_rfl) (fun _ _ _ h => h.elim) (Or.inl ⟨by rfl, ?yg52898_10⟩) (.inr hS20) ?rg52898_10
        case yg52898_10 => (intro w' _; go_simp; try rfl)
        simp only [Act.put, List.getElem_toArray, List.getElem_cons_succ, List.getElem_cons_zero, List.setIfInBounds_toArray, List.set_cons_zero, List.set_cons_succ]
        refine wpHJ_only 9 (by kernel_rfl) rfl ?_
        intro K hK
        go_simp
        refine hK _ _ (.inl rfl) ?_
        clear hK K
        refine wpHJ_done (by kernel_rfl) ?_ _
        simp only [onlyN, Exit.then]
        clear hFa
        clear hS20 hSx1 hSx2 hSd hlt hmk
        have HC := hid (Bas.noLess (sg := true) (er := 2) HB.out (ints_none _ _) (ints_none _ _) (by decide) (by simp) (by unfold checkM; rw [if_neg (by decide)]))
        obtain ⟨b0, b1', b2⟩ := HT.out.boxS
        go_wp2_with fail
        (with_reducible refine HC.out.mono ?_)
        rintro e w21 ⟨v21, rfl, hB, hf⟩
        have hT := HT.out.fr hf; have hK := HK.out.fr hf
        clear HB HT HK HC b0 b1' b2
        have HB := hid hB; have HT := hid hT; have HK := hid hK
        clear hB hT hK
        clear hf
        have HBF := hid HB.out.st.fr
        clear HB HT HK hv
        go_wp2_with fail
        (with_reducible refine (add_nil _ _ _ _ _ _ _ _).mono ?_)
        rintro e y0 ⟨rfl, hb⟩
        have hb2 := below_tr HBF.out hb
        clear hb HBF
        have HN0 := hid hb2
        clear hb2
        go_wp2_with fail
        (with_reducible refine (sub_nil _ _ _ _ _ _ _).mono ?_)
        rintro e y1 ⟨rfl, hb⟩
        have hb2 := below_tr HN0.out hb
        clear hb HN0
        have HN1 := hid hb2
        clear hb2
        go_wp2_with fail
        (with_reducible refine (equal_nil _ _ _ _ _ _ _).mono ?_)
        rintro e y2 ⟨rfl, hb⟩
        have hb2 := below_tr HN1.out hb
        clear hb HN1
        have HN2 := hid hb2
        clear hb2
        go_wp2_with fail
        (with_reducible refine (less_nil _ _ _ _ _ _ _ _).mono ?_)
        rintro e y3 ⟨rfl, hb⟩
        have hb2 := below_tr HN2.out hb
        clear hb HN2
        have HN3 := hid hb2
        clear hb2
        go_wp2_with fail
        (with_reducible refine (choose_nil _ _ _ _ _ _ _ _).mono ?_)
        rintro e y4 ⟨rfl, hb⟩
        have hb2 := below_tr HN3.out hb
        clear hb HN3
        have HN4 := hid hb2
        clear hb2
        go_wp2_with fail
        (with_reducible refine (any_nil _ _ _ _).mono ?_)
        rintro e y5 ⟨rfl, hb⟩
        have hb2 := below_tr HN4.out hb
        clear hb HN4
        have HN5 := hid hb2
        clear hb2
        go_wp2_with (go_at_call 30; refine (awake_any _).mono ?_; rintro e wz ⟨rfl, hbz⟩)
        go_ret
        exact ⟨rfl, below_tr HN5.out hbz⟩
      · intro K hK
        go_simp
        rw [show (World.alloc w19 (.cells (Array.replicate 65 (.int .i64 0)) 3)).drew = World.alloc w19.drew (.cells (Array.replicate 65 (.int .i64 0)) 3) from rfl]
        obtain ⟨x1, hx1⟩ : ∃ x1, World.alloc w19.drew (.cells (Array.replicate 65 (.int .i64 0)) 3) = x1 := ⟨_, rfl⟩
        rw [hx1]
        obtain ⟨hB, hb, hf, hi2, hs⟩ := HB.out.lay (List.replicate 65 0) 65 rfl (by omega) x1 (by rw [← hx1]; rfl)
        have HJ1 : Hid (Ints (Away bb x1) x1 (.slice (some ⟨w19.heap.size, 0, none⟩) 65 65) (List.replicate 65 0)) := hid hi2
        have hSx1 := (HT.out.fr hf).boxS
        have hT := HT.out.fr hf; have hK := HK.out.fr hf
        clear HB HT HK hx1
        have HB := hid hB; have HT := hid hT; have HK := hid hK
        clear hB hT hK
        clear hb hf hi2 hs
        refine hK _ _ (.inr (.inr hSx1)) ?_
        clear hK K
        refine wpHJ_only 2 (by kernel_rfl) rfl ?_
        intro K hK
        go_simp
        obtain ⟨x2, hx2⟩ : ∃ x2, World.alloc x1 (.cells (Array.replicate 65 (.int .i64 0)) 3) = x2 := ⟨_, rfl⟩
        rw [hx2]
        obtain ⟨hB, hb, hf, hi2, hs⟩ := HB.out.lay (List.replicate 65 0) 65 rfl (by omega) x2 (by rw [← hx2]; rfl)
        have h2' := HJ1.out.fr hf
        clear HJ1
        have HJ1 := hid h2'
        clear h2'
        have HJ2 : Hid (Ints (Away bb x2) x2 (.slice (some ⟨x1.heap.size, 0, none⟩) 65 65) (List.replicate 65 0)) := hid hi2
        have hSx2 := (HT.out.fr hf).boxS
        have hT := HT.out.fr hf; have hK := HK.out.fr hf
        clear HB HT HK hx2
        have HB := hid hB; have HT := hid hT; have HK := hid hK
        clear hB hT hK
        clear hb hf hi2 hs
        refine hK _ _ (.inr (.inr hSx2)) ?_
        clear hK K
        refine wpHJ_only 4 (by kernel_rfl) rfl ?_
        intro K hK
        go_simp
        have HC := hid (Bas.noSub (er := 2) HB.out HJ2.out HJ1.out (by decide) (fun l hl x hx => by
          simp only [List.mem_cons, List.not_mem_nil, or_false] at hl
          rcases hl with rfl | rfl <;> (rw [List.eq_of_mem_replicate hx]; omega)) (by rw [List.length_replicate]; omega) (by unfold checkM; rw [if_neg (by decide)]))
        (with_reducible refine (callsIn_wide.2 HC.out).mono ?_)
        rintro e w20 ⟨v20, rfl, hB, hf⟩
        have hT := HT.out.fr hf; have hK := HK.out.fr hf
        clear HB HT HK HC HJ1 HJ2
        have HB := hid hB; have HT := hid hT; have HK := hid hK
        clear hB hT hK
        have hS20 := HT.out.boxS
        clear hf
        refine hK _ _ (.inr (.inr hS20)) ?_
        clear hK K
        refine wpHJ_pure (v := ?vg52895_14) 5 hFa rfl (by kernel_rfl) (fun _ _ _ h => h.elim) (Or.inl ⟨by rfl, ?yg52895_14⟩) (.inr hS20) ?rg52895_14
        case yg52895_14 => (intro w' _; go_simp; try rfl)
        simp only [Act.put, List.getElem_toArray, List.getElem_cons_succ, List.getElem_cons_zero, List.setIfInBounds_toArray, List.set_cons_zero, List.set_cons_succ]
        refine wpHJ_pure (v := ?vg52896_15) 6 hFa rfl (by kernel_rfl) (fun _ _ _ h => h.elim) (Or.inl ⟨by rfl, ?yg52896_15⟩) (.inr hS20) ?rg52896_15
        case yg52896_15 => (intro w' _; go_simp; try rfl)
        simp only [Act.put, List.getElem_toArray, List.getElem_cons_succ, List.getElem_cons_zero, List.setIfInBounds_toArray, List.set_cons_zero, List.set_cons_succ]
        refine wpHJ_pure (v := ?vg52897_16) 7 hFa rfl (by kernel_rfl) (fun _ _ _ h => h.elim) (Or.inl ⟨by rfl, ?yg52897_16⟩) (.inr hS20) ?rg52897_16
        case yg52897_16 => (intro w' _; go_simp; try rfl)
        simp only [Act.put, List.getElem_toArray, List.getElem_cons_succ, List.getElem_cons_zero, List.setIfInBounds_toArray, List.set_cons_zero, List.set_cons_succ]
        refine wpHJ_pure (v := ?vg52898_17) 8 hFa rfl (by kernel_rfl) (fun _ _ _ h => h.elim) (Or.inl ⟨by rfl, ?yg52898_17⟩) (.inr hS20) ?rg52898_17
        case yg52898_17 => (intro w' _; go_simp; try rfl)
        simp only [Act.put, List.getElem_toArray, List.getElem_cons_succ, List.getElem_cons_zero, List.setIfInBounds_toArray, List.set_cons_zero, List.set_cons_succ]
        refine wpHJ_only 9 (by kernel_rfl) rfl ?_
        intro K hK
        go_simp
        refine hK _ _ (.inl rfl) ?_
        clear hK K
        refine wpHJ_done (by kernel_rfl) ?_ _
        simp only [onlyN, Exit.then]
        clear hFa
        clear hS20 hSx1 hSx2 hSd hlt hmk
        have HC := hid (Bas.noLess (sg := true) (er := 2) HB.out (ints_none _ _) (ints_none _ _) (by decide) (by simp) (by unfold checkM; rw [if_neg (by decide)]))
        obtain ⟨b0, b1', b2⟩ := HT.out.boxS
        go_wp2_with fail
        (with_reducible refine HC.out.mono ?_)
        rintro e w21 ⟨v21, rfl, hB, hf⟩
        have hT := HT.out.fr hf; have hK := HK.out.fr hf
        clear HB HT HK HC b0 b1' b2
        have HB := hid hB; have HT := hid hT; have HK := hid hK
        clear hB hT hK
        clear hf
        have HBF := hid HB.out.st.fr
        clear HB HT HK hv
        go_wp2_with fail
        (with_reducible refine (add_nil _ _ _ _ _ _ _ _).mono ?_)
        rintro e y0 ⟨rfl, hb⟩
        have hb2 := below_tr HBF.out hb
        clear hb HBF
        have HN0 := hid hb2
        clear hb2
        go_wp2_with fail
        (with_reducible refine (sub_nil _ _ _ _ _ _ _).mono ?_)
        rintro e y1 ⟨rfl, hb⟩
        have hb2 := below_tr HN0.out hb
        clear hb HN0
        have HN1 := hid hb2
        clear hb2
        go_wp2_with fail
        (with_reducible refine (equal_nil _ _ _ _ _ _ _).mono ?_)
        rintro e y2 ⟨rfl, hb⟩
        have hb2 := below_tr HN1.out hb
        clear hb HN1
        have HN2 := hid hb2
        clear hb2
        go_wp2_with fail
        (with_reducible refine (less_nil _ _ _ _ _ _ _ _).mono ?_)
        rintro e y3 ⟨rfl, hb⟩
        have hb2 := below_tr HN2.out hb
        clear hb HN2
        have HN3 := hid hb2
        clear hb2
        go_wp2_with fail
        (with_reducible refine (choose_nil _ _ _ _ _ _ _ _).mono ?_)
        rintro e y4 ⟨rfl, hb⟩
        have hb2 := below_tr HN3.out hb
        clear hb HN3
        have HN4 := hid hb2
        clear hb2
        go_wp2_with fail
        (with_reducible refine (any_nil _ _ _ _).mono ?_)
        rintro e y5 ⟨rfl, hb⟩
        have hb2 := below_tr HN4.out hb
        clear hb HN4
        have HN5 := hid hb2
        clear hb2
        go_wp2_with (go_at_call 30; refine (awake_any _).mono ?_; rintro e wz ⟨rfl, hbz⟩)
        go_ret
        exact ⟨rfl, below_tr HN5.out hbz⟩
    · intro K hK
      go_simp
      rw [show IntKind.i64.wrap (9 + (F14.vars : Int)) = 9 + (F14.vars : Int) from IntWalk.i64_in _ (by omega)]
      obtain ⟨wb, hwb⟩ : ∃ wb, World.alloc wa (.cells #[.int .i64 (9 + (F14.vars : Int))] 3) = wb := ⟨_, rfl⟩
      rw [hwb]
      obtain ⟨hB, hb, hf, hi2, hs⟩ := HB.out.lay [(9 + (F14.vars : Int))] 1 rfl (by omega) wb hwb
      have HI9 : Hid (Ints (Away bb wb) wb (.slice (some ⟨wa.heap.size, 0, none⟩) 1 1) [(9 + (F14.vars : Int))]) := hid hi2
      have hSwb := (HT.out.fr hf).boxS
      have hT := HT.out.fr hf; have hK := HK.out.fr hf
      clear HB HT HK hwb
      have HB := hid hB; have HT := hid hT; have HK := hid hK
      clear hB hT hK
      clear hb hf hi2 hs
      refine hK _ _ (.inr (.inr hSwb)) ?_
      clear hK K
      refine wpHJ_only 2 (by kernel_rfl) rfl ?_
      intro K hK
      go_simp
      obtain ⟨wc, hwc⟩ : ∃ wc, World.alloc wb (.cells #[.int .i64 2] 3) = wc := ⟨_, rfl⟩
      rw [hwc]
      obtain ⟨hB, hb, hf, hi2, hs⟩ := HB.out.lay [2] 1 rfl (by omega) wc hwc
      have h9' := HI9.out.fr hf
      clear HI9
      have HI9 := hid h9'
      clear h9'
      have HI2 : Hid (Ints (Away bb wc) wc (.slice (some ⟨wb.heap.size, 0, none⟩) 1 1) [2]) := hid hi2
      have hSwc := (HT.out.fr hf).boxS
      have hT := HT.out.fr hf; have hK := HK.out.fr hf
      clear HB HT HK hwc
      have HB := hid hB; have HT := hid hT; have HK := hid hK
      clear hB hT hK
      clear hb hf hi2 hs
      refine hK _ _ (.inr (.inr hSwc)) ?_
      clear hK K
      refine wpHJ_only 9 (by kernel_rfl) rfl ?_
      intro K hK
      go_simp
      have HC := hid (Bas.noEqual (er := 3) HB.out HI2.out HI9.out (by decide) (fun l hl x hx => by
        simp only [List.mem_cons, List.not_mem_nil, or_false] at hl
        rcases hl with rfl | rfl
        · simp only [List.mem_cons, List.not_mem_nil, or_false] at hx; omega
        · simp only [List.mem_cons, List.not_mem_nil, or_false] at hx; omega) (by
        have hno : okLit (F14.vars : Int) (9 + (F14.vars : Int)) = false := by unfold okLit; simp; omega
        unfold checkM
        rw [if_pos (by simp [goodLen]), if_neg (by simp [hasAll, hno])]))
      (with_reducible refine (callsIn_wide.2 HC.out).mono ?_)
      rintro e w17 ⟨v17, rfl, hB, hf⟩
      have hT := HT.out.fr hf; have hK := HK.out.fr hf
      clear HB HT HK HC HI2 HI9
      have HB := hid hB; have HT := hid hT; have HK := hid hK
      clear hB hT hK
      have hS17 := HT.out.boxS
      clear hf
      refine hK _ _ (.inr (.inr hS17)) ?_
      clear hK K
      refine wpHJ_pure (v := ?ve10_32) 10 hFa rfl (by kernel_rfl) (fun _ _ _ h => h.elim) (Or.inl ⟨by rfl, ?ye10_32⟩) (.inr hS17) ?re10_32
      case ye10_32 => (intro w' _; go_simp; try rfl)
      simp only [Act.put, List.getElem_toArray, List.getElem_cons_succ, List.getElem_cons_zero, List.setIfInBounds_toArray, List.set_cons_zero, List.set_cons_succ]
      refine wpHJ_pure (v := ?ve11_33) 11 hFa rfl (by kernel_rfl) (fun _ _ _ h => h.elim) (Or.inl ⟨by rfl, ?ye11_33⟩) (.inr hS17) ?re11_33
      case ye11_33 => (intro w' _; go_simp; try rfl)
      simp only [Act.put, List.getElem_toArray, List.getElem_cons_succ, List.getElem_cons_zero, List.setIfInBounds_toArray, List.set_cons_zero, List.set_cons_succ]
      refine wpHJ_pure (v := ?ve12_34) 12 hFa rfl (by kernel_rfl) (fun _ _ _ h => h.elim) (Or.inl ⟨by rfl, ?ye12_34⟩) (.inr hS17) ?re12_34
      case ye12_34 => (intro w' _; go_simp; try rfl)
      simp only [Act.put, List.getElem_toArray, List.getElem_cons_succ, List.getElem_cons_zero, List.setIfInBounds_toArray, List.set_cons_zero, List.set_cons_succ]
      refine wpHJ_only 13 (by kernel_rfl) rfl ?_
      intro K hK
      go_simp
      refine hK _ _ (.inl rfl) ?_
      clear hK K
      refine wpHJ_done (by kernel_rfl) ?_ _
      simp only [onlyN, Exit.then]
      clear hFa
      clear hS17 hSwa hSwb hSwc hSd hlt
      have HC := hid (Bas.noAdd (z := 0) (er := 3) (xs := [2, 3, 4]) (ys := [5, 6, 7]) HB.out (HK.out.w (.slice (some ⟨P1, 0, none⟩) 3 3, [2, 3, 4], ax) (by simp)).1 (HK.out.w (.slice (some ⟨P2, 0, none⟩) 3 3, [5, 6, 7], ay) (by simp)).1 (by decide) (by decide) (by have h1 : okLit (F14.vars : Int) 0 = false := rfl; unfold checkM; rw [if_pos (by decide), if_neg (by simp [hasAll, h1])]))
      obtain ⟨b0, b1', b2⟩ := HT.out.boxS
      go_wp2_with fail
      (with_reducible refine HC.out.mono ?_)
      rintro e w18 ⟨v18, rfl, hB, hf⟩
      have hT := HT.out.fr hf; have hK := HK.out.fr hf
      clear HB HT HK HC b0 b1' b2
      have HB := hid hB; have HT := hid hT; have HK := hid hK
      clear hB hT hK
      clear hf
      have HC := hid (Bas.noChoose (z := 0) (er := 3) (xs := [2, 3, 4]) (ys := [5, 6, 7]) HB.out (HK.out.w (.slice (some ⟨P1, 0, none⟩) 3 3, [2, 3, 4], ax) (by simp)).1 (HK.out.w (.slice (some ⟨P2, 0, none⟩) 3 3, [5, 6, 7], ay) (by simp)).1 (by decide) (by decide) (by have h1 : okLit (F14.vars : Int) 0 = false := rfl; unfold checkM; rw [if_pos (by decide), if_neg (by simp [hasAll, h1])]))
      obtain ⟨b0, b1', b2⟩ := HT.out.boxS
      go_wp2_with fail
      (with_reducible refine HC.out.mono ?_)
      rintro e w19 ⟨v19, rfl, hB, hf⟩
      have hT := HT.out.fr hf; have hK := HK.out.fr hf
      clear HB HT HK HC b0 b1' b2
      have HB := hid hB; have HT := hid hT; have HK := hid hK
      clear hB hT hK
      clear hf
      have hmk : ∀ w : World, (Instr.makeSlice 23 (.int .i64 65) (.int .i64 65)).run Try.prog w = .ok (.slice (some ⟨w.heap.size, 0, none⟩) 65 65) (w.alloc (.cells (Array.replicate 65 (.int .i64 0)) 3)) := fun w =>
        make_run (P := Try.prog) Try.underlying23 info_int rfl 65 (by omega) (by omega) w
      have hSd : (BoxS w3.heap.size (.pointer (some ⟨bb, 0, none⟩)) (.slice pi 6 ci) (.slice pv 6 cv)) w19.drew := HT.out.boxS
      have hlt := HT.out.lt
      go_wp2_with fail
      have hbd : Below w19.heap.size w19 w19.drew := ⟨rfl, rfl, rfl, Nat.le_refl _, fun _ _ => rfl⟩
      have hB := HB.out.fr hbd
      have hf := FrB.of_below HB.out.st.c.b hbd
      have hT := HT.out.fr hf; have hK := HK.out.fr hf
      clear HB HT HK hbd
      have HB := hid hB; have HT := hid hT; have HK := hid hK
      clear hB hT hK
      clear hf
      have hFa : ∀ f, Fence.wide.fn f := fun _ => trivial
      refine (wpIn_wide (n := 9)).1 ?_
      refine wpIn_onlyN ?_
      refine wpIn_region_HJ (BoxS w3.heap.size (.pointer (some ⟨bb, 0, none⟩)) (.slice pi 6 ci) (.slice pv 6 cv)) 9 (by kernel_rfl) ?_
      simp only [List.size_toArray, List.length_cons, List.length_nil, Nat.reduceAdd]
      refine wpHJ_pure (v := ?vg58290_1) 0 hFa rfl (by kernel_rfl) (fun _ _ _ h => h.elim) (Or.inl ⟨by rfl, ?yg58290_1⟩) (.inr hSd) ?rg58290_1
      case yg58290_1 => (intro w' _; go_simp; try rfl)
      simp only [Act.put, List.getElem_toArray, List.getElem_cons_succ, List.getElem_cons_zero, List.setIfInBounds_toArray, List.set_cons_zero, List.set_cons_succ]
      refine wpHJ_take (v := ?vg58291_2) 1 hFa rfl (by kernel_rfl) (fun _ _ _ h => h.elim) (Or.inl ⟨by rfl, ?yg58291_2⟩) hSd ?rg58291_2
      case yg58291_2 => (intro w' hS'; obtain ⟨s1, s2, s3⟩ := hS'; go_simp; try rfl)
      simp only [Act.put, List.getElem_toArray, List.getElem_cons_succ, List.getElem_cons_zero, List.setIfInBounds_toArray, List.set_cons_zero, List.set_cons_succ]
      refine wpHJ_two 2 3 (by kernel_rfl) rfl rfl ?_ ?_
      · intro K hK
        go_simp
        rw [show (World.alloc w19 (.cells (Array.replicate 65 (.int .i64 0)) 3)).drew = World.alloc w19.drew (.cells (Array.replicate 65 (.int .i64 0)) 3) from rfl]
        obtain ⟨x1, hx1⟩ : ∃ x1, World.alloc w19.drew (.cells (Array.replicate 65 (.int .i64 0)) 3) = x1 := ⟨_, rfl⟩
        rw [hx1]
        obtain ⟨hB, hb, hf, hi2, hs⟩ := HB.out.lay (List.replicate 65 0) 65 rfl (by omega) x1 (by rw [← hx1]; rfl)
        have HJ1 : Hid (Ints (Away bb x1) x1 (.slice (some ⟨w19.heap.size, 0, none⟩) 65 65) (List.replicate 65 0)) := hid hi2
        have hSx1 := (HT.out.fr hf).boxS
        have hT := HT.out.fr hf; have hK := HK.out.fr hf
        clear HB HT HK hx1
        have HB := hid hB; have HT := hid hT; have HK := hid hK
        clear hB hT hK
        clear hb hf hi2 hs
        refine hK _ _ (.inr (.inr hSx1)) ?_
        clear hK K
        refine wpHJ_only 3 (by kernel_rfl) rfl ?_
        intro K hK
        go_simp
        obtain ⟨x2, hx2⟩ : ∃ x2, World.alloc x1 (.cells (Array.replicate 65 (.int .i64 0)) 3) = x2 := ⟨_, rfl⟩
        rw [hx2]
        obtain ⟨hB, hb, hf, hi2, hs⟩ := HB.out.lay (List.replicate 65 0) 65 rfl (by omega) x2 (by rw [← hx2]; rfl)
        have h2' := HJ1.out.fr hf
        clear HJ1
        have HJ1 := hid h2'
        clear h2'
        have HJ2 : Hid (Ints (Away bb x2) x2 (.slice (some ⟨x1.heap.size, 0, none⟩) 65 65) (List.replicate 65 0)) := hid hi2
        have hSx2 := (HT.out.fr hf).boxS
        have hT := HT.out.fr hf; have hK := HK.out.fr hf
        clear HB HT HK hx2
        have HB := hid hB; have HT := hid hT; have HK := hid hK
        clear hB hT hK
        clear hb hf hi2 hs
        refine hK _ _ (.inr (.inr hSx2)) ?_
        clear hK K
        refine wpHJ_only 4 (by kernel_rfl) rfl ?_
        intro K hK
        go_simp
        have HC := hid (Bas.noSub (er := 2) HB.out HJ1.out HJ2.out (by decide) (fun l hl x hx => by
          simp only [List.mem_cons, List.not_mem_nil, or_false] at hl
          rcases hl with rfl | rfl <;> (rw [List.eq_of_mem_replicate hx]; omega)) (by rw [List.length_replicate]; omega) (by unfold checkM; rw [if_neg (by decide)]))
        (with_reducible refine (callsIn_wide.2 HC.out).mono ?_)
        rintro e w20 ⟨v20, rfl, hB, hf⟩
        have hT := HT.out.fr hf; have hK := HK.out.fr hf
        clear HB HT HK HC HJ1 HJ2
        have HB := hid hB; have HT := hid hT; have HK := hid hK
        clear hB hT hK
        have hS20 := HT.out.boxS
        clear hf
        refine hK _ _ (.inr (.inr hS20)) ?_
        clear hK K
        refine wpHJ_pure (v := ?vg58295_7) 5 hFa rfl (by kernel_rfl) (fun _ _ _ h => h.elim) (Or.inl ⟨by rfl, ?yg58295_7⟩) (.inr hS20) ?rg58295_7
        case yg58295_7 => (intro w' _; go_simp; try rfl)
        simp only [Act.put, List.getElem_toArray, List.getElem_cons_succ, List.getElem_cons_zero, List.setIfInBounds_toArray, List.set_cons_zero, List.set_cons_succ]
        refine wpHJ_pure (v := ?vg58296_8) 6 hFa rfl (by kernel_rfl) (fun _ _ _ h => h.elim) (Or.inl ⟨by rfl, ?yg58296_8⟩) (.inr hS20) ?rg58296_8
        case yg58296_8 => (intro w' _; go_simp; try rfl)
        simp only [Act.put, List.getElem_toArray, List.getElem_cons_succ, List.getElem_cons_zero, List.setIfInBounds_toArray, List.set_cons_zero, List.set_cons_succ]
        refine wpHJ_pure (v := ?vg58297_9) 7 hFa rfl (by kernel_rfl) (fun _ _ _ h => h.elim) (Or.inl ⟨by rfl, ?yg58297_9⟩) (.inr hS20) ?rg58297_9
        case yg58297_9 => (intro w' _; go_simp; try rfl)
        simp only [Act.put, List.getElem_toArray, List.getElem_cons_succ, List.getElem_cons_zero, List.setIfInBounds_toArray, List.set_cons_zero, List.set_cons_succ]
        refine wpHJ_pure (v := ?vg58298_10) 8 hFa rfl (by kernel_rfl) (fun _ _ _ h => h.elim) (Or.inl ⟨by rfl, ?yg58298_10⟩) (.inr hS20) ?rg58298_10
        case yg58298_10 => (intro w' _; go_simp; try rfl)
        simp only [Act.put, List.getElem_toArray, List.getElem_cons_succ, List.getElem_cons_zero, List.setIfInBounds_toArray, List.set_cons_zero, List.set_cons_succ]
        refine wpHJ_only 9 (by kernel_rfl) rfl ?_
        intro K hK
        go_simp
        refine hK _ _ (.inl rfl) ?_
        clear hK K
        refine wpHJ_done (by kernel_rfl) ?_ _
        simp only [onlyN, Exit.then]
        clear hFa
        clear hS20 hSx1 hSx2 hSd hlt hmk
        have HC := hid (Bas.noLess (sg := true) (er := 2) HB.out (ints_none _ _) (ints_none _ _) (by decide) (by simp) (by unfold checkM; rw [if_neg (by decide)]))
        obtain ⟨b0, b1', b2⟩ := HT.out.boxS
        go_wp2_with fail
        (with_reducible refine HC.out.mono ?_)
        rintro e w21 ⟨v21, rfl, hB, hf⟩
        have hT := HT.out.fr hf; have hK := HK.out.fr hf
        clear HB HT HK HC b0 b1' b2
        have HB := hid hB; have HT := hid hT; have HK := hid hK
        clear hB hT hK
        clear hf
        have HBF := hid HB.out.st.fr
        clear HB HT HK hv
        go_wp2_with fail
        (with_reducible refine (add_nil _ _ _ _ _ _ _ _).mono ?_)
        rintro e y0 ⟨rfl, hb⟩
        have hb2 := below_tr HBF.out hb
        clear hb HBF
        have HN0 := hid hb2
        clear hb2
        go_wp2_with fail
        (with_reducible refine (sub_nil _ _ _ _ _ _ _).mono ?_)
        rintro e y1 ⟨rfl, hb⟩
        have hb2 := below_tr HN0.out hb
        clear hb HN0
        have HN1 := hid hb2
        clear hb2
        go_wp2_with fail
        (with_reducible refine (equal_nil _ _ _ _ _ _ _).mono ?_)
        rintro e y2 ⟨rfl, hb⟩
        have hb2 := below_tr HN1.out hb
        clear hb HN1
        have HN2 := hid hb2
        clear hb2
        go_wp2_with fail
        (with_reducible refine (less_nil _ _ _ _ _ _ _ _).mono ?_)
        rintro e y3 ⟨rfl, hb⟩
        have hb2 := below_tr HN2.out hb
        clear hb HN2
        have HN3 := hid hb2
        clear hb2
        go_wp2_with fail
        (with_reducible refine (choose_nil _ _ _ _ _ _ _ _).mono ?_)
        rintro e y4 ⟨rfl, hb⟩
        have hb2 := below_tr HN3.out hb
        clear hb HN3
        have HN4 := hid hb2
        clear hb2
        go_wp2_with fail
        (with_reducible refine (any_nil _ _ _ _).mono ?_)
        rintro e y5 ⟨rfl, hb⟩
        have hb2 := below_tr HN4.out hb
        clear hb HN4
        have HN5 := hid hb2
        clear hb2
        go_wp2_with (go_at_call 30; refine (awake_any _).mono ?_; rintro e wz ⟨rfl, hbz⟩)
        go_ret
        exact ⟨rfl, below_tr HN5.out hbz⟩
      · intro K hK
        go_simp
        rw [show (World.alloc w19 (.cells (Array.replicate 65 (.int .i64 0)) 3)).drew = World.alloc w19.drew (.cells (Array.replicate 65 (.int .i64 0)) 3) from rfl]
        obtain ⟨x1, hx1⟩ : ∃ x1, World.alloc w19.drew (.cells (Array.replicate 65 (.int .i64 0)) 3) = x1 := ⟨_, rfl⟩
        rw [hx1]
        obtain ⟨hB, hb, hf, hi2, hs⟩ := HB.out.lay (List.replicate 65 0) 65 rfl (by omega) x1 (by rw [← hx1]; rfl)
        have HJ1 : Hid (Ints (Away bb x1) x1 (.slice (some ⟨w19.heap.size, 0, none⟩) 65 65) (List.replicate 65 0)) := hid hi2
        have hSx1 := (HT.out.fr hf).boxS
        have hT := HT.out.fr hf; have hK := HK.out.fr hf
        clear HB HT HK hx1
        have HB := hid hB; have HT := hid hT; have HK := hid hK
        clear hB hT hK
        clear hb hf hi2 hs
        refine hK _ _ (.inr (.inr hSx1)) ?_
        clear hK K
        refine wpHJ_only 2 (by kernel_rfl) rfl ?_
        intro K hK
        go_simp
        obtain ⟨x2, hx2⟩ : ∃ x2, World.alloc x1 (.cells (Array.replicate 65 (.int .i64 0)) 3) = x2 := ⟨_, rfl⟩
        rw [hx2]
        obtain ⟨hB, hb, hf, hi2, hs⟩ := HB.out.lay (List.replicate 65 0) 65 rfl (by omega) x2 (by rw [← hx2]; rfl)
        have h2' := HJ1.out.fr hf
        clear HJ1
        have HJ1 := hid h2'
        clear h2'
        have HJ2 : Hid (Ints (Away bb x2) x2 (.slice (some ⟨x1.heap.size, 0, none⟩) 65 65) (List.replicate 65 0)) := hid hi2
        have hSx2 := (HT.out.fr hf).boxS
        have hT := HT.out.fr hf; have hK := HK.out.fr hf
        clear HB HT HK hx2
        have HB := hid hB; have HT := hid hT; have HK := hid hK
        clear hB hT hK
        clear hb hf hi2 hs
        refine hK _ _ (.inr (.inr hSx2)) ?_
        clear hK K
        refine wpHJ_only 4 (by kernel_rfl) rfl ?_
        intro K hK
        go_simp
        have HC := hid (Bas.noSub (er := 2) HB.out HJ2.out HJ1.out (by decide) (fun l hl x hx => by
          simp only [List.mem_cons, List.not_mem_nil, or_false] at hl
          rcases hl with rfl | rfl <;> (rw [List.eq_of_mem_replicate hx]; omega)) (by rw [List.length_replicate]; omega) (by unfold checkM; rw [if_neg (by decide)]))
        (with_reducible refine (callsIn_wide.2 HC.out).mono ?_)
        rintro e w20 ⟨v20, rfl, hB, hf⟩
        have hT := HT.out.fr hf; have hK := HK.out.fr hf
        clear HB HT HK HC HJ1 HJ2
        have HB := hid hB; have HT := hid hT; have HK := hid hK
        clear hB hT hK
        have hS20 := HT.out.boxS
        clear hf
        refine hK _ _ (.inr (.inr hS20)) ?_
        clear hK K
        refine wpHJ_pure (v := ?vg58295_14) 5 hFa rfl (by kernel_rfl) (fun _ _ _ h => h.elim) (Or.inl ⟨by rfl, ?yg58295_14⟩) (.inr hS20) ?rg58295_14
        case yg58295_14 => (intro w' _; go_simp; try rfl)
        simp only [Act.put, List.getElem_toArray, List.getElem_cons_succ, List.getElem_cons_zero, List.setIfInBounds_toArray, List.set_cons_zero, List.set_cons_succ]
        refine wpHJ_pure (v := ?vg58296_15) 6 hFa rfl (by kernel_rfl) (fun _ _ _ h => h.elim) (Or.inl ⟨by rfl, ?yg58296_15⟩) (.inr hS20) ?rg58296_15
        case yg58296_15 => (intro w' _; go_simp; try rfl)
        simp only [Act.put, List.getElem_toArray, List.getElem_cons_succ, List.getElem_cons_zero, List.setIfInBounds_toArray, List.set_cons_zero, List.set_cons_succ]
        refine wpHJ_pure (v := ?vg58297_16) 7 hFa rfl (by kernel_rfl) (fun _ _ _ h => h.elim) (Or.inl ⟨by rfl, ?yg58297_16⟩) (.inr hS20) ?rg58297_16
        case yg58297_16 => (intro w' _; go_simp; try rfl)
        simp only [Act.put, List.getElem_toArray, List.getElem_cons_succ, List.getElem_cons_zero, List.setIfInBounds_toArray, List.set_cons_zero, List.set_cons_succ]
        refine wpHJ_pure (v := ?vg58298_17) 8 hFa rfl (by kernel_rfl) (fun _ _ _ h => h.elim) (Or.inl ⟨by rfl, ?yg58298_17⟩) (.inr hS20) ?rg58298_17
        case yg58298_17 => (intro w' _; go_simp; try rfl)
        simp only [Act.put, List.getElem_toArray, List.getElem_cons_succ, List.getElem_cons_zero, List.setIfInBounds_toArray, List.set_cons_zero, List.set_cons_succ]
        refine wpHJ_only 9 (by kernel_rfl) rfl ?_
        intro K hK
        go_simp
        refine hK _ _ (.inl rfl) ?_
        clear hK K
        refine wpHJ_done (by kernel_rfl) ?_ _
        simp only [onlyN, Exit.then]
        clear hFa
        clear hS20 hSx1 hSx2 hSd hlt hmk
        have HC := hid (Bas.noLess (sg := true) (er := 2) HB.out (ints_none _ _) (ints_none _ _) (by decide) (by simp) (by unfold checkM; rw [if_neg (by decide)]))
        obtain ⟨b0, b1', b2⟩ := HT.out.boxS
        go_wp2_with fail
        (with_reducible refine HC.out.mono ?_)
        rintro e w21 ⟨v21, rfl, hB, hf⟩
        have hT := HT.out.fr hf; have hK := HK.out.fr hf
        clear HB HT HK HC b0 b1' b2
        have HB := hid hB; have HT := hid hT; have HK := hid hK
        clear hB hT hK
        clear hf
        have HBF := hid HB.out.st.fr
        clear HB HT HK hv
        go_wp2_with fail
        (with_reducible refine (add_nil _ _ _ _ _ _ _ _).mono ?_)
        rintro e y0 ⟨rfl, hb⟩
        have hb2 := below_tr HBF.out hb
        clear hb HBF
        have HN0 := hid hb2
        clear hb2
        go_wp2_with fail
        (with_reducible refine (sub_nil _ _ _ _ _ _ _).mono ?_)
        rintro e y1 ⟨rfl, hb⟩
        have hb2 := below_tr HN0.out hb
        clear hb HN0
        have HN1 := hid hb2
        clear hb2
        go_wp2_with fail
        (with_reducible refine (equal_nil _ _ _ _ _ _ _).mono ?_)
        rintro e y2 ⟨rfl, hb⟩
        have hb2 := below_tr HN1.out hb
        clear hb HN1
        have HN2 := hid hb2
        clear hb2
        go_wp2_with fail
        (with_reducible refine (less_nil _ _ _ _ _ _ _ _).mono ?_)
        rintro e y3 ⟨rfl, hb⟩
        have hb2 := below_tr HN2.out hb
        clear hb HN2
        have HN3 := hid hb2
        clear hb2
        go_wp2_with fail
        (with_reducible refine (choose_nil _ _ _ _ _ _ _ _).mono ?_)
        rintro e y4 ⟨rfl, hb⟩
        have hb2 := below_tr HN3.out hb
        clear hb HN3
        have HN4 := hid hb2
        clear hb2
        go_wp2_with fail
        (with_reducible refine (any_nil _ _ _ _).mono ?_)
        rintro e y5 ⟨rfl, hb⟩
        have hb2 := below_tr HN4.out hb
        clear hb HN4
        have HN5 := hid hb2
        clear hb2
        go_wp2_with (go_at_call 30; refine (awake_any _).mono ?_; rintro e wz ⟨rfl, hbz⟩)
        go_ret
        exact ⟨rfl, below_tr HN5.out hbz⟩

end Go.Proofs.Ytngimdbjcelkeaa
