/-
  The law side of shift: Shift by its operator's place, the table of operators, shows, awake.
  The walk of ShiftWords.
-/
import Derived.Test.YtjcnhnifageikaaDoorSh2
import Derived.Test.YtjcnhnifageikaaDoorSh3
import Derived.Test.YtjcnhnifageikaaDoorSh4
namespace Go.Proofs.YtjcnhnifageikaaDoor
set_option linter.unusedSimpArgs false
set_option linter.unusedVariables false
open Go.RowKit Go.Shelf
attribute [local go_sem] Oper.semAt_some

theorem shift_c (i : Nat) (hi : i < 3) {w0 w : World} {bb n V K m : Nat} {vin vval vx vy : Value} {σ : Nat → Bool} {F : Form} {xs ys : List Int} {a b : List Bool} (h : Bas w0 bb n vin vval V K w σ F) (h1 : 1 ≤ m) (h64 : m ≤ 64) (ix : Ints (Away bb w) w vx xs) (iy : Ints (Away bb w) w vy ys)
    (lx : LitsAre σ F xs a) (ly : LitsAre σ F ys b) (la : a.length = m) (lb : b.length = m) (hV : V + m * m < 1048576) (hK : K + 6 * (m * m) ≤ 1048576) :
    Calls Tryd.prog 11 #[.pointer (some ⟨bb, 0, none⟩), .int .u8 (opAt i), vx, vy] w (BasW w0 bb n vin vval V K w σ F (shB (opAt i) a b) (m * m) (6 * (m * m))) := by
  have : i = 0 ∨ i = 1 ∨ i = 2 := by omega
  rcases this with rfl | rfl | rfl
  · exact shift12_c h h1 h64 ix iy lx ly la lb hV hK
  · exact shift13_c h h1 h64 ix iy lx ly la lb hV hK
  · exact shift14_c h h1 h64 ix iy lx ly la lb hV hK

/-- What shows' loop carries. -/
structure ShwI (w : World) (bb : Nat) (vin vval : Value) (T B : Nat) (ax ay : List Bool) (ws : List Value) (i : Nat) (wr : World) (σ : Nat → Bool) (F : Form) : Prop where
  bas : Bas w bb 6 vin vval (7 + 9 * i) (1 + 54 * i) wr σ F
  t : Own bb wr T (.cells #[.pointer (some ⟨bb, 0, none⟩), vin, vval] 30 (0, 0))
  b : Own bb wr B (.cells ws.toArray 93 (0, 0))
  lx : LitsAre σ F [2, 3, 4] ax
  ly : LitsAre σ F [5, 6, 7] ay

set_option maxRecDepth 100000 in
set_option maxHeartbeats 3200000 in
theorem shows18_c (x y : Nat) (g : Nat → Nat) (hx : x < 8) (hy : y < 8) (hg : ∀ i, i < 3 → g i = valB (shB (opAt i) (ofB 3 x) (ofB 3 y))) (w : World) (hO : Ops w) :
    Calls Tryd.prog 24 #[.int .u64 (x : Int), .int .u64 (y : Int), .int .u64 (g 0 : Nat), .int .u64 (g 1 : Nat), .int .u64 (g 2 : Nat)] w fun e w' => e = .returned (.bool true) ∧ Below w.heap.size w w' := by
  have HSM := hid (small_any (x : Int) (y : Int) w)
  obtain ⟨bx, by_⟩ := small_bits ⟨x, hx⟩ ⟨y, hy⟩
  simp only at bx by_
  generalize sigB (smallV (x : Int) (y : Int)) = σ0 at *
  have ex : [2, 3, 4].map (litT σ0) = ofB 3 x := by rw [← bx]; exact (ofB_valB ([2, 3, 4].map (litT σ0))).symm
  have ey : [5, 6, 7].map (litT σ0) = ofB 3 y := by rw [← by_]; exact (ofB_valB ([5, 6, 7].map (litT σ0))).symm
  have HX := hid ex; have HY := hid ey; have HG := hid hg; have HO := hid hO
  clear bx by_ hg hO ex ey
  have hlx : (ofB 3 x).length = 3 := ofB_len _ _
  have hly : (ofB 3 y).length = 3 := ofB_len _ _
  have HLX := hid hlx; have HLY := hid hly
  clear hlx hly
  generalize ofB 3 x = ax at *
  generalize ofB 3 y = ay at *
  go_enter Tryd.func24, Tryd.ntmps24
  go_wp2_with fail
  (with_reducible refine HSM.out.mono ?_)
  rintro e w3 ⟨bb, vin, vval, rfl, hC, hb, hbb, hlo⟩
  obtain ⟨pi, ci, rfl, _, _, _⟩ := hC.inp.opn (insM_len _)
  obtain ⟨pv, cv, rfl, _, _, _⟩ := hC.val.opn (valsM_len _ _)
  have hB0 : Bas w bb 6 _ _ 7 1 w3 σ0 ⟨7, [[1]]⟩ := ⟨St.mk hC hb hlo, Nat.le_refl _, Nat.le_refl _⟩
  obtain ⟨hB1, hT1, hs1, hf1⟩ := hB0.box _ rfl
  obtain ⟨w4, hw4⟩ : ∃ w4, w3.alloc (.cells #[.pointer (some ⟨bb, 0, none⟩), .slice pi 6 ci, .slice pv 6 cv] 30) = w4 := ⟨_, rfl⟩
  rw [hw4] at hB1 hT1 hs1 hf1
  have hb5 : Below w4.heap.size w4 (w4.alloc (.cells #[.int .u64 (g 0 : Nat), .int .u64 (g 1 : Nat), .int .u64 (g 2 : Nat)] 93)) := (Below.refl _ _).alloc (Nat.le_refl _) _
  have hn5 : (w4.alloc (.cells #[.int .u64 (g 0 : Nat), .int .u64 (g 1 : Nat), .int .u64 (g 2 : Nat)] 93)).heap[w4.heap.size]? = some (.cells #[.int .u64 (g 0 : Nat), .int .u64 (g 1 : Nat), .int .u64 (g 2 : Nat)] 93 (0, 0)) := by rw [heap_al, if_pos rfl]
  obtain ⟨w5, hw5⟩ : ∃ w5, w4.alloc (.cells #[.int .u64 (g 0 : Nat), .int .u64 (g 1 : Nat), .int .u64 (g 2 : Nat)] 93) = w5 := ⟨_, rfl⟩
  rw [hw5] at hb5 hn5
  have lx : LitsAre σ0 ⟨7, [[1]]⟩ [2, 3, 4] ax := ⟨(by decide : ∀ x ∈ ([2, 3, 4] : List Int), okLit (7 : Nat) x = true), HX.out⟩
  have ly : LitsAre σ0 ⟨7, [[1]]⟩ [5, 6, 7] ay := ⟨(by decide : ∀ x ∈ ([5, 6, 7] : List Int), okLit (7 : Nat) x = true), HY.out⟩
  have h0 : ShwI w bb (.slice pi 6 ci) (.slice pv 6 cv) w3.heap.size w4.heap.size ax ay [.int .u64 (g 0 : Nat), .int .u64 (g 1 : Nat), .int .u64 (g 2 : Nat)] 0 w5 σ0 ⟨7, [[1]]⟩ :=
    ⟨hB1.fr hb5, hT1.fr (FrB.of_below hB1.st.c.b hb5), ⟨hB1.st.c.b.away_new hb5 (Nat.le_refl _) (by rw [← hw5]; simp only [World.size_alloc]; omega), hn5⟩, lx, ly⟩
  have H0 := hid h0; have HW4 := hid hw4; have HW5 := hid hw5
  have e3 : w3.heap.size + 1 = w4.heap.size := by omega
  have HE3 := hid e3
  clear hC hb hbb hlo hB0 hB1 hT1 hs1 hf1 hb5 hn5 lx ly h0 hw4 hw5 HSM e3
  go_wp2_with fail
  rw [HW4.out, HW5.out, HE3.out]
  go_loopw [13] (fun i wr => ∃ (j : Nat) (σj : Nat → Bool) (Fj : Form), j ≤ 3 ∧ i = .int .i64 j ∧ ShwI w bb (.slice pi 6 ci) (.slice pv 6 cv) w3.heap.size w4.heap.size ax ay [.int .u64 (g 0 : Nat), .int .u64 (g 1 : Nat), .int .u64 (g 2 : Nat)] j wr σj Fj) (fun i _ => 3 - (intOf i).toNat)
  case atStart => exact ⟨0, σ0, ⟨7, [[1]]⟩, by omega, rfl, H0.out⟩
  case round =>
    obtain ⟨j, σj, Fj, hj, rfl, hI⟩ := hrel
    obtain ⟨wo, rfl⟩ : ∃ wo : World, wo = wr := ⟨_, rfl⟩
    by_cases hlt : j < 3
    · have HI := hid hI
      have d3 : decide ((j : Int) < 3) = true := by simp; omega
      have hj3 : (j : Int) < 3 := by omega
      have hoo := HO.out.below hI.bas.st.fr HO.out.lt
      have ho := hoo.at' j hlt
      have hS : (fun W1 : World => (BoxS w3.heap.size (.pointer (some ⟨bb, 0, none⟩)) (.slice pi 6 ci) (.slice pv 6 cv)) W1 ∧ W1.cell? ⟨0, j, none⟩ = some (.int .u8 (opAt j))) wo.drew := ⟨hI.t.boxS.drew, ho⟩
      have HLT := hid hlt
      clear hI hoo
      go_wp2_with fail
      have hFa : ∀ f, Fence.wide.fn f := fun _ => trivial
      refine (wpIn_wide (n := 9)).1 ?_
      refine wpIn_onlyN ?_
      refine wpIn_region_HJ (fun W1 : World => (BoxS w3.heap.size (.pointer (some ⟨bb, 0, none⟩)) (.slice pi 6 ci) (.slice pv 6 cv)) W1 ∧ W1.cell? ⟨0, j, none⟩ = some (.int .u8 (opAt j))) 12 (by kernel_rfl) ?_
      simp only [List.size_toArray, List.length_cons, List.length_nil, Nat.reduceAdd]
      refine wpHJ_pure (v := ?va0_1) 0 hFa rfl (by kernel_rfl) (fun _ _ _ h => h.elim) (Or.inl ⟨by rfl, ?ya0_1⟩) (.inr hS) ?ra0_1
      case ya0_1 => (intro w' _; go_simp; try rfl)
      simp only [Act.put, List.getElem_toArray, List.getElem_cons_succ, List.getElem_cons_zero, List.setIfInBounds_toArray, List.set_cons_zero, List.set_cons_succ]
      refine wpHJ_take (v := ?va1_2) 1 hFa rfl (by kernel_rfl) (fun _ _ _ h => h.elim) (Or.inl ⟨by rfl, ?ya1_2⟩) hS ?ra1_2
      case ya1_2 => (intro w' hS'; obtain ⟨⟨s1, s2, s3⟩, s4⟩ := hS'; go_simp; try rfl)
      simp only [Act.put, List.getElem_toArray, List.getElem_cons_succ, List.getElem_cons_zero, List.setIfInBounds_toArray, List.set_cons_zero, List.set_cons_succ]
      refine wpHJ_pure (v := ?va2_3) 2 hFa rfl (by kernel_rfl) (fun _ _ _ h => h.elim) (Or.inl ⟨by rfl, ?ya2_3⟩) (.inr hS) ?ra2_3
      case ya2_3 => (intro w' _; go_simp; try rfl)
      simp only [Act.put, List.getElem_toArray, List.getElem_cons_succ, List.getElem_cons_zero, List.setIfInBounds_toArray, List.set_cons_zero, List.set_cons_succ]
      refine wpHJ_pure (v := ?va3_4) 3 hFa rfl (by kernel_rfl) (fun _ _ _ h => h.elim) (Or.inl ⟨by rfl, ?ya3_4⟩) (.inr hS) ?ra3_4
      case ya3_4 => (intro w' _; go_simp; try rfl)
      simp only [Act.put, List.getElem_toArray, List.getElem_cons_succ, List.getElem_cons_zero, List.setIfInBounds_toArray, List.set_cons_zero, List.set_cons_succ]
      refine wpHJ_take (v := ?va4_5) 4 hFa rfl (by kernel_rfl) (fun _ _ _ h => h.elim) (Or.inl ⟨by rfl, ?ya4_5⟩) hS ?ra4_5
      case ya4_5 => (intro w' hS'; obtain ⟨⟨s1, s2, s3⟩, s4⟩ := hS'; go_simp; try rfl)
      simp only [Act.put, List.getElem_toArray, List.getElem_cons_succ, List.getElem_cons_zero, List.setIfInBounds_toArray, List.set_cons_zero, List.set_cons_succ]
      refine wpHJ_two 5 6 (by kernel_rfl) rfl rfl ?_ ?_
      · intro K hK
        go_simp
        obtain ⟨u5_5, hu5_5⟩ : ∃ W, wo.alloc (.cells #[.int .i64 2, .int .i64 3, .int .i64 4] 3) = W := ⟨_, rfl⟩
        obtain ⟨hBu5_5, hbu5_5, hfu5_5, hiu5_5, hsu5_5⟩ := HI.out.bas.lay [2, 3, 4] 3 rfl (by omega) u5_5 hu5_5
        have hSu5_5 : (fun W1 : World => (BoxS w3.heap.size (.pointer (some ⟨bb, 0, none⟩)) (.slice pi 6 ci) (.slice pv 6 cv)) W1 ∧ W1.cell? ⟨0, j, none⟩ = some (.int .u8 (opAt j))) u5_5.drew := ⟨(BoxS.below (w := wo) hS.1 hbu5_5 HI.out.t.lt).drew, (hbu5_5.cell (p := ⟨0, j, none⟩) (Nat.lt_of_lt_of_le HO.out.lt HI.out.bas.st.fr.size)).trans hS.2⟩
        rw [hu5_5]
        refine hK _ _ (.inr (.inr hSu5_5)) ?_
        clear hK K
        refine wpHJ_only 6 (by kernel_rfl) rfl ?_
        intro K hK
        go_simp
        obtain ⟨u6_56, hu6_56⟩ : ∃ W, u5_5.alloc (.cells #[.int .i64 5, .int .i64 6, .int .i64 7] 3) = W := ⟨_, rfl⟩
        obtain ⟨hBu6_56, hbu6_56, hfu6_56, hiu6_56, hsu6_56⟩ := hBu5_5.lay [5, 6, 7] 3 rfl (by omega) u6_56 hu6_56
        have hSu6_56 : (fun W1 : World => (BoxS w3.heap.size (.pointer (some ⟨bb, 0, none⟩)) (.slice pi 6 ci) (.slice pv 6 cv)) W1 ∧ W1.cell? ⟨0, j, none⟩ = some (.int .u8 (opAt j))) u6_56.drew := ⟨(BoxS.below (w := u5_5) hSu5_5.1 hbu6_56 (Nat.lt_of_lt_of_le HI.out.t.lt hbu5_5.size)).drew, (hbu6_56.cell (p := ⟨0, j, none⟩) (Nat.lt_of_lt_of_le (Nat.lt_of_lt_of_le HO.out.lt HI.out.bas.st.fr.size) hbu5_5.size)).trans hSu5_5.2⟩
        have hfdu6_56 := FrB.of_below hBu6_56.st.c.b (show Below u6_56.heap.size u6_56 u6_56.drew from ⟨rfl, rfl, rfl, Nat.le_refl _, fun _ _ => rfl⟩)
        have HTu6_56 := hid (((HI.out.t.fr hfu5_5).fr hfu6_56).fr hfdu6_56)
        have HWu6_56 := hid (((HI.out.b.fr hfu5_5).fr hfu6_56).fr hfdu6_56)
        have hCu6_56 := (shift_c j HLT.out (hBu6_56.fr (show Below u6_56.heap.size u6_56 u6_56.drew from ⟨rfl, rfl, rfl, Nat.le_refl _, fun _ _ => rfl⟩)) (m := 3) (by omega) (by omega) ((hiu5_5.fr hfu6_56).fr hfdu6_56) (hiu6_56.fr hfdu6_56) HI.out.lx HI.out.ly HLX.out HLY.out (by omega) (by omega))
        rw [hsu5_5] at hCu6_56
        have HCu6_56 := hid hCu6_56
        clear hCu6_56
        clear hBu6_56 hiu6_56 hBu5_5 hiu5_5 hfu6_56 hfu5_5 hfdu6_56
        rw [hu6_56]
        refine hK _ _ (.inr (.inr hSu6_56)) ?_
        clear hK K
        refine wpHJ_only 7 (by kernel_rfl) rfl ?_
        intro K hK
        go_simp
        (with_reducible refine (callsIn_wide.2 HCu6_56.out).mono ?_)
        rintro e c56 ⟨vc56, zsc56, σc56, Fc56, rfl, hBc56, hic56, hlc56, hfc56, hxc56⟩
        have hzc56 : zsc56.length = 3 := by rw [hlc56.len, shB_len]; exact HLX.out
        obtain ⟨pc56, cc56, rfl, _, _, _⟩ := hic56.opn hzc56
        have hSc56 : (fun W1 : World => (BoxS w3.heap.size (.pointer (some ⟨bb, 0, none⟩)) (.slice pi 6 ci) (.slice pv 6 cv)) W1 ∧ W1.cell? ⟨0, j, none⟩ = some (.int .u8 (opAt j))) c56 := ⟨(HTu6_56.out.fr hfc56).boxS, (hBc56.st.fr.cell (p := ⟨0, j, none⟩) HO.out.lt).trans (HO.out.at' j HLT.out)⟩
        refine hK _ _ (.inr (.inr hSc56)) ?_
        clear hK K
        refine wpHJ_pure (v := ?va8_10) 8 hFa rfl (by kernel_rfl) (fun _ _ _ h => h.elim) (Or.inl ⟨by rfl, ?ya8_10⟩) (.inr hSc56) ?ra8_10
        case ya8_10 => (intro w' _; go_simp; try rfl)
        simp only [Act.put, List.getElem_toArray, List.getElem_cons_succ, List.getElem_cons_zero, List.setIfInBounds_toArray, List.set_cons_zero, List.set_cons_succ]
        refine wpHJ_pure (v := ?va9_11) 9 hFa rfl (by kernel_rfl) (fun _ _ _ h => h.elim) (Or.inl ⟨by rfl, ?ya9_11⟩) (.inr hSc56) ?ra9_11
        case ya9_11 => (intro w' _; go_simp; try rfl)
        simp only [Act.put, List.getElem_toArray, List.getElem_cons_succ, List.getElem_cons_zero, List.setIfInBounds_toArray, List.set_cons_zero, List.set_cons_succ]
        refine wpHJ_pure (v := ?va10_12) 10 hFa rfl (by kernel_rfl) (fun _ _ _ h => h.elim) (Or.inl ⟨by rfl, ?ya10_12⟩) (.inr hSc56) ?ra10_12
        case ya10_12 => (intro w' _; go_simp; try rfl)
        simp only [Act.put, List.getElem_toArray, List.getElem_cons_succ, List.getElem_cons_zero, List.setIfInBounds_toArray, List.set_cons_zero, List.set_cons_succ]
        refine wpHJ_pure (v := ?va11_13) 11 hFa rfl (by kernel_rfl) (fun _ _ _ h => h.elim) (Or.inl ⟨by rfl, ?ya11_13⟩) (.inr hSc56) ?ra11_13
        case ya11_13 => (intro w' _; go_simp; try rfl)
        simp only [Act.put, List.getElem_toArray, List.getElem_cons_succ, List.getElem_cons_zero, List.setIfInBounds_toArray, List.set_cons_zero, List.set_cons_succ]
        refine wpHJ_only 12 (by kernel_rfl) rfl ?_
        intro K hK
        go_simp
        refine hK _ _ (.inl rfl) ?_
        clear hK K
        refine wpHJ_done (by kernel_rfl) ?_ _
        simp only [onlyN, Exit.then]
        clear hFa
        have hTnc56 := HTu6_56.out.fr hfc56
        have hWnc56 := HWu6_56.out.fr hfc56
        have hgjc56 : ([.int .u64 (g 0 : Nat), .int .u64 (g 1 : Nat), .int .u64 (g 2 : Nat)] : List Value)[j]? = some (.int .u64 (g j : Nat)) := by
          have := HLT.out
          have : j = 0 ∨ j = 1 ∨ j = 2 := by omega
          rcases this with rfl | rfl | rfl <;> rfl
        have hSwc56 : (fun W1 : World => (BoxS w3.heap.size (.pointer (some ⟨bb, 0, none⟩)) (.slice pi 6 ci) (.slice pv 6 cv)) W1 ∧ W1.cell? ⟨w4.heap.size, j, none⟩ = some (.int .u64 (g j : Nat))) c56.drew := ⟨hTnc56.boxS.drew, by show World.cell? c56 _ = _; rw [cell_of_cells hWnc56.2]; simpa using hgjc56⟩
        have HSWc56 := hid (((Kit.nil (bb := bb)).word hic56 hlc56).shows hBc56 (v := .slice pc56 3 cc56) (zs := zsc56) (bs := shB (opAt j) ax ay) (by simp) (by rw [shB_len, HLX.out]; omega) (want := g j) (HG.out j HLT.out).symm (show Below c56.heap.size c56 c56.drew from ⟨rfl, rfl, rfl, Nat.le_refl _, fun _ _ => rfl⟩))
        have HTnc56 := hid hTnc56; have HBxc56 := hid hWnc56; have HBnc56 := hid hBc56
        have HLnc56 := hid (And.intro (HI.out.lx.ext hxc56) (HI.out.ly.ext hxc56))
        clear hTnc56 hWnc56 hgjc56 hBc56 hic56 hlc56 hfc56 hxc56 hzc56 HCu6_56 HTu6_56 HWu6_56 hS
        go_wp2_with fail
        have hFa : ∀ f, Fence.wide.fn f := fun _ => trivial
        refine (wpIn_wide (n := 9)).1 ?_
        refine wpIn_onlyN ?_
        refine wpIn_region_HJ (fun W1 : World => (BoxS w3.heap.size (.pointer (some ⟨bb, 0, none⟩)) (.slice pi 6 ci) (.slice pv 6 cv)) W1 ∧ W1.cell? ⟨w4.heap.size, j, none⟩ = some (.int .u64 (g j : Nat))) 10 (by kernel_rfl) ?_
        simp only [List.size_toArray, List.length_cons, List.length_nil, Nat.reduceAdd]
        refine wpHJ_pure (v := ?vnc560) 0 hFa rfl (by kernel_rfl) (fun _ _ _ h => h.elim) (Or.inl ⟨by rfl, ?ync560⟩) (.inr hSwc56) ?rnc560
        case ync560 => (intro w' _; go_simp; try rfl)
        simp only [Act.put, List.getElem_toArray, List.getElem_cons_succ, List.getElem_cons_zero, List.setIfInBounds_toArray, List.set_cons_zero, List.set_cons_succ]
        refine wpHJ_pure (v := ?vnc561) 1 hFa rfl (by kernel_rfl) (fun _ _ _ h => h.elim) (Or.inl ⟨by rfl, ?ync561⟩) (.inr hSwc56) ?rnc561
        case ync561 => (intro w' _; go_simp; try rfl)
        simp only [Act.put, List.getElem_toArray, List.getElem_cons_succ, List.getElem_cons_zero, List.setIfInBounds_toArray, List.set_cons_zero, List.set_cons_succ]
        refine wpHJ_pure (v := ?vnc562) 2 hFa rfl (by kernel_rfl) (fun _ _ _ h => h.elim) (Or.inl ⟨by rfl, ?ync562⟩) (.inr hSwc56) ?rnc562
        case ync562 => (intro w' _; go_simp; try rfl)
        simp only [Act.put, List.getElem_toArray, List.getElem_cons_succ, List.getElem_cons_zero, List.setIfInBounds_toArray, List.set_cons_zero, List.set_cons_succ]
        refine wpHJ_pure (v := ?vnc563) 3 hFa rfl (by kernel_rfl) (fun _ _ _ h => h.elim) (Or.inl ⟨by rfl, ?ync563⟩) (.inr hSwc56) ?rnc563
        case ync563 => (intro w' _; go_simp; try rfl)
        simp only [Act.put, List.getElem_toArray, List.getElem_cons_succ, List.getElem_cons_zero, List.setIfInBounds_toArray, List.set_cons_zero, List.set_cons_succ]
        refine wpHJ_take (v := ?vnc564) 4 hFa rfl (by kernel_rfl) (fun _ _ _ h => h.elim) (Or.inl ⟨by simp [Region.wanted, yielded], ?ync564⟩) hSwc56 ?rnc564
        case ync564 => (intro w' hS'; obtain ⟨⟨s1, s2, s3⟩, s4⟩ := hS'; go_simp; try rfl)
        simp only [Act.put, List.getElem_toArray, List.getElem_cons_succ, List.getElem_cons_zero, List.setIfInBounds_toArray, List.set_cons_zero, List.set_cons_succ]
        refine wpHJ_pure (v := ?vnc565) 5 hFa rfl (by kernel_rfl) (fun _ _ _ h => h.elim) (Or.inl ⟨by simp [Region.wanted, yielded], ?ync565⟩) (.inr hSwc56) ?rnc565
        case ync565 => (intro w' _; go_simp; try rfl)
        simp only [Act.put, List.getElem_toArray, List.getElem_cons_succ, List.getElem_cons_zero, List.setIfInBounds_toArray, List.set_cons_zero, List.set_cons_succ]
        refine wpHJ_pure (v := ?vnc566) 6 hFa rfl (by kernel_rfl) (fun _ _ _ h => h.elim) (Or.inl ⟨by simp [Region.wanted, yielded], ?ync566⟩) (.inr hSwc56) ?rnc566
        case ync566 => (intro w' _; go_simp; try rfl)
        simp only [Act.put, List.getElem_toArray, List.getElem_cons_succ, List.getElem_cons_zero, List.setIfInBounds_toArray, List.set_cons_zero, List.set_cons_succ]
        refine wpHJ_take (v := ?vnc567) 7 hFa rfl (by kernel_rfl) (fun _ _ _ h => h.elim) (Or.inl ⟨by simp [Region.wanted, yielded], ?ync567⟩) hSwc56 ?rnc567
        case ync567 => (intro w' hS'; obtain ⟨⟨s1, s2, s3⟩, s4⟩ := hS'; go_simp; try rfl)
        simp only [Act.put, List.getElem_toArray, List.getElem_cons_succ, List.getElem_cons_zero, List.setIfInBounds_toArray, List.set_cons_zero, List.set_cons_succ]
        refine wpHJ_pure (v := ?vnc568) 8 hFa rfl (by kernel_rfl) (fun _ _ _ h => h.elim) (Or.inl ⟨by simp [Region.wanted, yielded], ?ync568⟩) (.inr hSwc56) ?rnc568
        case ync568 => (intro w' _; go_simp; try rfl)
        simp only [Act.put, List.getElem_toArray, List.getElem_cons_succ, List.getElem_cons_zero, List.setIfInBounds_toArray, List.set_cons_zero, List.set_cons_succ]
        refine wpHJ_pure (v := ?vnc569) 9 hFa rfl (by kernel_rfl) (fun _ _ _ h => h.elim) (Or.inl ⟨by simp [Region.wanted, yielded], ?ync569⟩) (.inr hSwc56) ?rnc569
        case ync569 => (intro w' _; go_simp; try rfl)
        simp only [Act.put, List.getElem_toArray, List.getElem_cons_succ, List.getElem_cons_zero, List.setIfInBounds_toArray, List.set_cons_zero, List.set_cons_succ]
        refine wpHJ_only 10 (by kernel_rfl) rfl ?_
        intro K hK
        rw [if_pos (by simp [Region.wanted, yielded])]
        go_simp
        (with_reducible refine (callsIn_wide.2 HSWc56.out).mono ?_)
        rintro e wec56 ⟨rfl, hbec56⟩
        have HBEc56 := hid hbec56
        have hSec56 : (fun W1 : World => (BoxS w3.heap.size (.pointer (some ⟨bb, 0, none⟩)) (.slice pi 6 ci) (.slice pv 6 cv)) W1 ∧ W1.cell? ⟨w4.heap.size, j, none⟩ = some (.int .u64 (g j : Nat))) wec56 := ⟨(HTnc56.out.fr (FrB.of_below HBnc56.out.st.c.b HBEc56.out)).boxS, ((hbec56.cell (p := ⟨w4.heap.size, j, none⟩) HBxc56.out.lt)).trans (show World.cell? c56 _ = _ from hSwc56.2)⟩
        refine hK _ _ (.inl rfl) ?_
        clear hK K
        refine wpHJ_pure (v := ?vnc5611) 11 hFa rfl (by kernel_rfl) (fun _ _ _ h => h.elim) (Or.inl ⟨by simp [Region.wanted, yielded], ?ync5611⟩) (.inl rfl) ?rnc5611
        case ync5611 => (intro w' _; go_simp; try rfl)
        simp only [Act.put, List.getElem_toArray, List.getElem_cons_succ, List.getElem_cons_zero, List.setIfInBounds_toArray, List.set_cons_zero, List.set_cons_succ]
        refine wpHJ_pure (v := ?vnc5612) 12 hFa rfl (by kernel_rfl) (fun _ _ _ h => h.elim) (Or.inl ⟨by rfl, ?ync5612⟩) (.inl rfl) ?rnc5612
        case ync5612 => (intro w' _; go_simp; try rfl)
        simp only [Act.put, List.getElem_toArray, List.getElem_cons_succ, List.getElem_cons_zero, List.setIfInBounds_toArray, List.set_cons_zero, List.set_cons_succ]
        refine wpHJ_done (by kernel_rfl) ?_ _
        simp only [onlyN, Exit.then]
        clear hFa
        go_wp2
        go_roundw
        case rel => exact ⟨j + 1, σc56, Fc56, by have := HLT.out; omega, by go_num, ⟨(HBnc56.out.fr HBEc56.out).mono (by omega) (by omega), HTnc56.out.fr (FrB.of_below HBnc56.out.st.c.b HBEc56.out), HBxc56.out.fr (FrB.of_below HBnc56.out.st.c.b HBEc56.out), HLnc56.out.1, HLnc56.out.2⟩⟩
        case measure => (have := HLT.out; simp [intOf] <;> omega)
      · intro K hK
        go_simp
        obtain ⟨u6_6, hu6_6⟩ : ∃ W, wo.alloc (.cells #[.int .i64 5, .int .i64 6, .int .i64 7] 3) = W := ⟨_, rfl⟩
        obtain ⟨hBu6_6, hbu6_6, hfu6_6, hiu6_6, hsu6_6⟩ := HI.out.bas.lay [5, 6, 7] 3 rfl (by omega) u6_6 hu6_6
        have hSu6_6 : (fun W1 : World => (BoxS w3.heap.size (.pointer (some ⟨bb, 0, none⟩)) (.slice pi 6 ci) (.slice pv 6 cv)) W1 ∧ W1.cell? ⟨0, j, none⟩ = some (.int .u8 (opAt j))) u6_6.drew := ⟨(BoxS.below (w := wo) hS.1 hbu6_6 HI.out.t.lt).drew, (hbu6_6.cell (p := ⟨0, j, none⟩) (Nat.lt_of_lt_of_le HO.out.lt HI.out.bas.st.fr.size)).trans hS.2⟩
        rw [hu6_6]
        refine hK _ _ (.inr (.inr hSu6_6)) ?_
        clear hK K
        refine wpHJ_only 5 (by kernel_rfl) rfl ?_
        intro K hK
        go_simp
        obtain ⟨u5_65, hu5_65⟩ : ∃ W, u6_6.alloc (.cells #[.int .i64 2, .int .i64 3, .int .i64 4] 3) = W := ⟨_, rfl⟩
        obtain ⟨hBu5_65, hbu5_65, hfu5_65, hiu5_65, hsu5_65⟩ := hBu6_6.lay [2, 3, 4] 3 rfl (by omega) u5_65 hu5_65
        have hSu5_65 : (fun W1 : World => (BoxS w3.heap.size (.pointer (some ⟨bb, 0, none⟩)) (.slice pi 6 ci) (.slice pv 6 cv)) W1 ∧ W1.cell? ⟨0, j, none⟩ = some (.int .u8 (opAt j))) u5_65.drew := ⟨(BoxS.below (w := u6_6) hSu6_6.1 hbu5_65 (Nat.lt_of_lt_of_le HI.out.t.lt hbu6_6.size)).drew, (hbu5_65.cell (p := ⟨0, j, none⟩) (Nat.lt_of_lt_of_le (Nat.lt_of_lt_of_le HO.out.lt HI.out.bas.st.fr.size) hbu6_6.size)).trans hSu6_6.2⟩
        have hfdu5_65 := FrB.of_below hBu5_65.st.c.b (show Below u5_65.heap.size u5_65 u5_65.drew from ⟨rfl, rfl, rfl, Nat.le_refl _, fun _ _ => rfl⟩)
        have HTu5_65 := hid (((HI.out.t.fr hfu6_6).fr hfu5_65).fr hfdu5_65)
        have HWu5_65 := hid (((HI.out.b.fr hfu6_6).fr hfu5_65).fr hfdu5_65)
        have hCu5_65 := (shift_c j HLT.out (hBu5_65.fr (show Below u5_65.heap.size u5_65 u5_65.drew from ⟨rfl, rfl, rfl, Nat.le_refl _, fun _ _ => rfl⟩)) (m := 3) (by omega) (by omega) (hiu5_65.fr hfdu5_65) ((hiu6_6.fr hfu5_65).fr hfdu5_65) HI.out.lx HI.out.ly HLX.out HLY.out (by omega) (by omega))
        rw [hsu6_6] at hCu5_65
        have HCu5_65 := hid hCu5_65
        clear hCu5_65
        clear hBu5_65 hiu5_65 hBu6_6 hiu6_6 hfu5_65 hfu6_6 hfdu5_65
        rw [hu5_65]
        refine hK _ _ (.inr (.inr hSu5_65)) ?_
        clear hK K
        refine wpHJ_only 7 (by kernel_rfl) rfl ?_
        intro K hK
        go_simp
        (with_reducible refine (callsIn_wide.2 HCu5_65.out).mono ?_)
        rintro e c65 ⟨vc65, zsc65, σc65, Fc65, rfl, hBc65, hic65, hlc65, hfc65, hxc65⟩
        have hzc65 : zsc65.length = 3 := by rw [hlc65.len, shB_len]; exact HLX.out
        obtain ⟨pc65, cc65, rfl, _, _, _⟩ := hic65.opn hzc65
        have hSc65 : (fun W1 : World => (BoxS w3.heap.size (.pointer (some ⟨bb, 0, none⟩)) (.slice pi 6 ci) (.slice pv 6 cv)) W1 ∧ W1.cell? ⟨0, j, none⟩ = some (.int .u8 (opAt j))) c65 := ⟨(HTu5_65.out.fr hfc65).boxS, (hBc65.st.fr.cell (p := ⟨0, j, none⟩) HO.out.lt).trans (HO.out.at' j HLT.out)⟩
        refine hK _ _ (.inr (.inr hSc65)) ?_
        clear hK K
        refine wpHJ_pure (v := ?va8_17) 8 hFa rfl (by kernel_rfl) (fun _ _ _ h => h.elim) (Or.inl ⟨by rfl, ?ya8_17⟩) (.inr hSc65) ?ra8_17
        case ya8_17 => (intro w' _; go_simp; try rfl)
        simp only [Act.put, List.getElem_toArray, List.getElem_cons_succ, List.getElem_cons_zero, List.setIfInBounds_toArray, List.set_cons_zero, List.set_cons_succ]
        refine wpHJ_pure (v := ?va9_18) 9 hFa rfl (by kernel_rfl) (fun _ _ _ h => h.elim) (Or.inl ⟨by rfl, ?ya9_18⟩) (.inr hSc65) ?ra9_18
        case ya9_18 => (intro w' _; go_simp; try rfl)
        simp only [Act.put, List.getElem_toArray, List.getElem_cons_succ, List.getElem_cons_zero, List.setIfInBounds_toArray, List.set_cons_zero, List.set_cons_succ]
        refine wpHJ_pure (v := ?va10_19) 10 hFa rfl (by kernel_rfl) (fun _ _ _ h => h.elim) (Or.inl ⟨by rfl, ?ya10_19⟩) (.inr hSc65) ?ra10_19
        case ya10_19 => (intro w' _; go_simp; try rfl)
        simp only [Act.put, List.getElem_toArray, List.getElem_cons_succ, List.getElem_cons_zero, List.setIfInBounds_toArray, List.set_cons_zero, List.set_cons_succ]
        refine wpHJ_pure (v := ?va11_20) 11 hFa rfl (by kernel_rfl) (fun _ _ _ h => h.elim) (Or.inl ⟨by rfl, ?ya11_20⟩) (.inr hSc65) ?ra11_20
        case ya11_20 => (intro w' _; go_simp; try rfl)
        simp only [Act.put, List.getElem_toArray, List.getElem_cons_succ, List.getElem_cons_zero, List.setIfInBounds_toArray, List.set_cons_zero, List.set_cons_succ]
        refine wpHJ_only 12 (by kernel_rfl) rfl ?_
        intro K hK
        go_simp
        refine hK _ _ (.inl rfl) ?_
        clear hK K
        refine wpHJ_done (by kernel_rfl) ?_ _
        simp only [onlyN, Exit.then]
        clear hFa
        have hTnc65 := HTu5_65.out.fr hfc65
        have hWnc65 := HWu5_65.out.fr hfc65
        have hgjc65 : ([.int .u64 (g 0 : Nat), .int .u64 (g 1 : Nat), .int .u64 (g 2 : Nat)] : List Value)[j]? = some (.int .u64 (g j : Nat)) := by
          have := HLT.out
          have : j = 0 ∨ j = 1 ∨ j = 2 := by omega
          rcases this with rfl | rfl | rfl <;> rfl
        have hSwc65 : (fun W1 : World => (BoxS w3.heap.size (.pointer (some ⟨bb, 0, none⟩)) (.slice pi 6 ci) (.slice pv 6 cv)) W1 ∧ W1.cell? ⟨w4.heap.size, j, none⟩ = some (.int .u64 (g j : Nat))) c65.drew := ⟨hTnc65.boxS.drew, by show World.cell? c65 _ = _; rw [cell_of_cells hWnc65.2]; simpa using hgjc65⟩
        have HSWc65 := hid (((Kit.nil (bb := bb)).word hic65 hlc65).shows hBc65 (v := .slice pc65 3 cc65) (zs := zsc65) (bs := shB (opAt j) ax ay) (by simp) (by rw [shB_len, HLX.out]; omega) (want := g j) (HG.out j HLT.out).symm (show Below c65.heap.size c65 c65.drew from ⟨rfl, rfl, rfl, Nat.le_refl _, fun _ _ => rfl⟩))
        have HTnc65 := hid hTnc65; have HBxc65 := hid hWnc65; have HBnc65 := hid hBc65
        have HLnc65 := hid (And.intro (HI.out.lx.ext hxc65) (HI.out.ly.ext hxc65))
        clear hTnc65 hWnc65 hgjc65 hBc65 hic65 hlc65 hfc65 hxc65 hzc65 HCu5_65 HTu5_65 HWu5_65 hS
        go_wp2_with fail
        have hFa : ∀ f, Fence.wide.fn f := fun _ => trivial
        refine (wpIn_wide (n := 9)).1 ?_
        refine wpIn_onlyN ?_
        refine wpIn_region_HJ (fun W1 : World => (BoxS w3.heap.size (.pointer (some ⟨bb, 0, none⟩)) (.slice pi 6 ci) (.slice pv 6 cv)) W1 ∧ W1.cell? ⟨w4.heap.size, j, none⟩ = some (.int .u64 (g j : Nat))) 10 (by kernel_rfl) ?_
        simp only [List.size_toArray, List.length_cons, List.length_nil, Nat.reduceAdd]
        refine wpHJ_pure (v := ?vnc650) 0 hFa rfl (by kernel_rfl) (fun _ _ _ h => h.elim) (Or.inl ⟨by rfl, ?ync650⟩) (.inr hSwc65) ?rnc650
        case ync650 => (intro w' _; go_simp; try rfl)
        simp only [Act.put, List.getElem_toArray, List.getElem_cons_succ, List.getElem_cons_zero, List.setIfInBounds_toArray, List.set_cons_zero, List.set_cons_succ]
        refine wpHJ_pure (v := ?vnc651) 1 hFa rfl (by kernel_rfl) (fun _ _ _ h => h.elim) (Or.inl ⟨by rfl, ?ync651⟩) (.inr hSwc65) ?rnc651
        case ync651 => (intro w' _; go_simp; try rfl)
        simp only [Act.put, List.getElem_toArray, List.getElem_cons_succ, List.getElem_cons_zero, List.setIfInBounds_toArray, List.set_cons_zero, List.set_cons_succ]
        refine wpHJ_pure (v := ?vnc652) 2 hFa rfl (by kernel_rfl) (fun _ _ _ h => h.elim) (Or.inl ⟨by rfl, ?ync652⟩) (.inr hSwc65) ?rnc652
        case ync652 => (intro w' _; go_simp; try rfl)
        simp only [Act.put, List.getElem_toArray, List.getElem_cons_succ, List.getElem_cons_zero, List.setIfInBounds_toArray, List.set_cons_zero, List.set_cons_succ]
        refine wpHJ_pure (v := ?vnc653) 3 hFa rfl (by kernel_rfl) (fun _ _ _ h => h.elim) (Or.inl ⟨by rfl, ?ync653⟩) (.inr hSwc65) ?rnc653
        case ync653 => (intro w' _; go_simp; try rfl)
        simp only [Act.put, List.getElem_toArray, List.getElem_cons_succ, List.getElem_cons_zero, List.setIfInBounds_toArray, List.set_cons_zero, List.set_cons_succ]
        refine wpHJ_take (v := ?vnc654) 4 hFa rfl (by kernel_rfl) (fun _ _ _ h => h.elim) (Or.inl ⟨by simp [Region.wanted, yielded], ?ync654⟩) hSwc65 ?rnc654
        case ync654 => (intro w' hS'; obtain ⟨⟨s1, s2, s3⟩, s4⟩ := hS'; go_simp; try rfl)
        simp only [Act.put, List.getElem_toArray, List.getElem_cons_succ, List.getElem_cons_zero, List.setIfInBounds_toArray, List.set_cons_zero, List.set_cons_succ]
        refine wpHJ_pure (v := ?vnc655) 5 hFa rfl (by kernel_rfl) (fun _ _ _ h => h.elim) (Or.inl ⟨by simp [Region.wanted, yielded], ?ync655⟩) (.inr hSwc65) ?rnc655
        case ync655 => (intro w' _; go_simp; try rfl)
        simp only [Act.put, List.getElem_toArray, List.getElem_cons_succ, List.getElem_cons_zero, List.setIfInBounds_toArray, List.set_cons_zero, List.set_cons_succ]
        refine wpHJ_pure (v := ?vnc656) 6 hFa rfl (by kernel_rfl) (fun _ _ _ h => h.elim) (Or.inl ⟨by simp [Region.wanted, yielded], ?ync656⟩) (.inr hSwc65) ?rnc656
        case ync656 => (intro w' _; go_simp; try rfl)
        simp only [Act.put, List.getElem_toArray, List.getElem_cons_succ, List.getElem_cons_zero, List.setIfInBounds_toArray, List.set_cons_zero, List.set_cons_succ]
        refine wpHJ_take (v := ?vnc657) 7 hFa rfl (by kernel_rfl) (fun _ _ _ h => h.elim) (Or.inl ⟨by simp [Region.wanted, yielded], ?ync657⟩) hSwc65 ?rnc657
        case ync657 => (intro w' hS'; obtain ⟨⟨s1, s2, s3⟩, s4⟩ := hS'; go_simp; try rfl)
        simp only [Act.put, List.getElem_toArray, List.getElem_cons_succ, List.getElem_cons_zero, List.setIfInBounds_toArray, List.set_cons_zero, List.set_cons_succ]
        refine wpHJ_pure (v := ?vnc658) 8 hFa rfl (by kernel_rfl) (fun _ _ _ h => h.elim) (Or.inl ⟨by simp [Region.wanted, yielded], ?ync658⟩) (.inr hSwc65) ?rnc658
        case ync658 => (intro w' _; go_simp; try rfl)
        simp only [Act.put, List.getElem_toArray, List.getElem_cons_succ, List.getElem_cons_zero, List.setIfInBounds_toArray, List.set_cons_zero, List.set_cons_succ]
        refine wpHJ_pure (v := ?vnc659) 9 hFa rfl (by kernel_rfl) (fun _ _ _ h => h.elim) (Or.inl ⟨by simp [Region.wanted, yielded], ?ync659⟩) (.inr hSwc65) ?rnc659
        case ync659 => (intro w' _; go_simp; try rfl)
        simp only [Act.put, List.getElem_toArray, List.getElem_cons_succ, List.getElem_cons_zero, List.setIfInBounds_toArray, List.set_cons_zero, List.set_cons_succ]
        refine wpHJ_only 10 (by kernel_rfl) rfl ?_
        intro K hK
        rw [if_pos (by simp [Region.wanted, yielded])]
        go_simp
        (with_reducible refine (callsIn_wide.2 HSWc65.out).mono ?_)
        rintro e wec65 ⟨rfl, hbec65⟩
        have HBEc65 := hid hbec65
        have hSec65 : (fun W1 : World => (BoxS w3.heap.size (.pointer (some ⟨bb, 0, none⟩)) (.slice pi 6 ci) (.slice pv 6 cv)) W1 ∧ W1.cell? ⟨w4.heap.size, j, none⟩ = some (.int .u64 (g j : Nat))) wec65 := ⟨(HTnc65.out.fr (FrB.of_below HBnc65.out.st.c.b HBEc65.out)).boxS, ((hbec65.cell (p := ⟨w4.heap.size, j, none⟩) HBxc65.out.lt)).trans (show World.cell? c65 _ = _ from hSwc65.2)⟩
        refine hK _ _ (.inl rfl) ?_
        clear hK K
        refine wpHJ_pure (v := ?vnc6511) 11 hFa rfl (by kernel_rfl) (fun _ _ _ h => h.elim) (Or.inl ⟨by simp [Region.wanted, yielded], ?ync6511⟩) (.inl rfl) ?rnc6511
        case ync6511 => (intro w' _; go_simp; try rfl)
        simp only [Act.put, List.getElem_toArray, List.getElem_cons_succ, List.getElem_cons_zero, List.setIfInBounds_toArray, List.set_cons_zero, List.set_cons_succ]
        refine wpHJ_pure (v := ?vnc6512) 12 hFa rfl (by kernel_rfl) (fun _ _ _ h => h.elim) (Or.inl ⟨by rfl, ?ync6512⟩) (.inl rfl) ?rnc6512
        case ync6512 => (intro w' _; go_simp; try rfl)
        simp only [Act.put, List.getElem_toArray, List.getElem_cons_succ, List.getElem_cons_zero, List.setIfInBounds_toArray, List.set_cons_zero, List.set_cons_succ]
        refine wpHJ_done (by kernel_rfl) ?_ _
        simp only [onlyN, Exit.then]
        clear hFa
        go_wp2
        go_roundw
        case rel => exact ⟨j + 1, σc65, Fc65, by have := HLT.out; omega, by go_num, ⟨(HBnc65.out.fr HBEc65.out).mono (by omega) (by omega), HTnc65.out.fr (FrB.of_below HBnc65.out.st.c.b HBEc65.out), HBxc65.out.fr (FrB.of_below HBnc65.out.st.c.b HBEc65.out), HLnc65.out.1, HLnc65.out.2⟩⟩
        case measure => (have := HLT.out; simp [intOf] <;> omega)
    · obtain rfl : j = 3 := by omega
      have HF := hid hI.bas.st.fr
      clear hI
      go_wp2
      go_ret
      exact ⟨rfl, HF.out⟩

/-- awake. -/
theorem awake18_any (w : World) (hO : Ops w) : Calls Tryd.prog 14 #[] w fun e w' => e = .returned (.bool true) ∧ Below w.heap.size w w' := by
  have H1 := hid (show Calls Tryd.prog 24 #[.int .u64 5, .int .u64 1, .int .u64 2, .int .u64 2, .int .u64 6] w _ from shows18_c 5 1 (fun i => if i = 2 then 6 else 2) (by omega) (by omega) (fun i hi => by have : i = 0 ∨ i = 1 ∨ i = 2 := by { omega }; rcases this with rfl | rfl | rfl <;> decide) w hO)
  have H2 := hid (fun w1 (h : Ops w1) => show Calls Tryd.prog 24 #[.int .u64 6, .int .u64 2, .int .u64 0, .int .u64 1, .int .u64 7] w1 _ from shows18_c 6 2 (fun i => if i = 2 then 7 else i) (by omega) (by omega) (fun i hi => by have : i = 0 ∨ i = 1 ∨ i = 2 := by { omega }; rcases this with rfl | rfl | rfl <;> decide) w1 h)
  have HO := hid hO
  clear hO
  go_enter Tryd.func14, Tryd.ntmps14
  go_wp2_with fail
  (with_reducible refine H1.out.mono ?_)
  rintro e w1 ⟨rfl, hb1⟩
  have HC := hid (H2.out w1 (HO.out.below hb1 HO.out.lt))
  have HB := hid hb1
  clear hb1
  go_wp2_with fail
  (with_reducible refine HC.out.mono ?_)
  rintro e w2 ⟨rfl, hb2⟩
  have HB2 := hid (below_tr' HB.out hb2 (Nat.le_refl _))
  clear hb2
  go_wp2
  go_ret
  exact ⟨rfl, HB2.out⟩

end Go.Proofs.YtjcnhnifageikaaDoor

namespace Go.Proofs.YtjcnhnifageikaaDoor
set_option linter.unusedSimpArgs false
set_option linter.unusedVariables false
open Go.RowKit Go.Shelf

/-- Two rows of different types lie apart. -/
theorem own_ne {w : World} {B1 B2 e1 e2 n1 n2 : Nat} {v1 v2 : Value} {xs1 xs2 : List Value} (h1 : w.ownsRow B1 e1 1 v1 n1 xs1) (h2 : w.ownsRow B2 e2 1 v2 n2 xs2) (hne : e1 ≠ e2) : ∀ j, v1.ownBlock = some j → v2.ownBlock ≠ some j := by
  intro j hj hj2
  rcases h1.2 with ⟨rfl, _⟩ | ⟨g, c, cur, rfl, _, hb, _⟩
  · cases hj
  · rcases h2.2 with ⟨rfl, _⟩ | ⟨g2, c2, cur2, rfl, _, hb2, _⟩
    · cases hj2
    · cases hj; cases hj2
      rw [hb] at hb2
      injection hb2 with e
      injection e with _ e _
      exact hne e

/-- A list of the law's own grows. -/
theorem Bas.grown {w0 w wr w' : World} {bb n V K : Nat} {vin vval : Value} {σ : Nat → Bool} {F : Form} {row : Option Nat} (h : Bas w0 bb n vin vval V K wr σ F) (hf : FrB bb w wr) (ci : Ints (Away bb w) w vin (insM n)) (cv : Bools (Away bb w) w vval (valsM n σ)) (h0 : w0.heap.size ≤ w.heap.size)
    (hg : wr.grownBy w' row) (hr : ∀ r, row = some r → Away bb wr r ∧ w.heap.size ≤ r) : Bas w0 bb n vin vval V K w' σ F ∧ FrB bb w w' ∧ ∀ k, Away bb wr k → Away bb w' k := by
  obtain ⟨hB, hA⟩ := h.st.c.b.grown hg (fun r e => (hr r e).1)
  have hfw : FrB bb w w' := ⟨hg.os.trans hf.os, hg.tape.trans hf.tape, hg.output.trans hf.output, Nat.le_trans hf.size hg.size, fun j hj => by
    obtain ⟨a1, a2⟩ := hf.keep j hj
    exact ⟨hA j a1, (hg.block j a1.size (fun e => by have := (hr j e.symm).2; have := hj.size; omega)).trans a2⟩⟩
  exact ⟨⟨⟨⟨hB, h.st.c.good, ci.fr hfw, cv.fr hfw, h.st.c.n⟩, h.st.fr.grown hg h.st.fr.size (fun k hk => Nat.le_trans h0 (hr k hk).2), fun j hj => hA j (h.st.lo j hj)⟩, h.v, h.c⟩, hfw, hA⟩

/-- The bits of the shifts so far. -/
def shN (a b : List Bool) : Nat → List Bool
  | 0 => []
  | i + 1 => shN a b i ++ shB (opAt i) a b
theorem shN_len (a b : List Bool) : ∀ i, (shN a b i).length = i * a.length
  | 0 => by rw [shN, Nat.zero_mul]; rfl
  | i + 1 => by rw [shN, List.length_append, shN_len a b i, shB_len, Nat.succ_mul]

/-- What the law's loop carries: W4 the world ahead of it. -/
structure LawI (w0 W4 : World) (bb n V K : Nat) (vin vval : Value) (σ0 : Nat → Bool) (F0 : Form) (W : Nat) (bits : List Bool) (k : Nat) (wr : World) (σ : Nat → Bool) (F : Form) (vl vw : Value) (zs : List Int) (dv dc : Nat) : Prop where
  bas : Bas w0 bb n vin vval (V + dv) (K + dc) wr σ F
  ext : Ext n σ0 F0 σ F dv dc
  fr : FrB bb W4 wr
  ol : wr.ownsRow W4.heap.size 3 1 vl k (zs.map (Value.int .i64))
  al : ∀ j, vl.ownBlock = some j → Away bb wr j
  ow : wr.ownsRow W4.heap.size 4 1 vw k (bits.map Value.bool)
  aw : ∀ j, vw.ownBlock = some j → Away bb wr j
  lz : LitsAre σ F zs bits
  w3 : w0.heap.size ≤ W4.heap.size
  ci : Ints (Away bb W4) W4 vin (insM n)
  cv : Bools (Away bb W4) W4 vval (valsM n σ)

section
variable {w0 W4 wr w' : World} {bb n V K W k dv dc a c : Nat} {vin vval vl vl' vw vw' : Value} {σ0 σ σ' : Nat → Bool} {F0 F F' : Form} {bits : List Bool} {zs : List Int}
theorem LawI.step (h : LawI w0 W4 bb n V K vin vval σ0 F0 W bits k wr σ F vl vw zs dv dc) (hb : Bas w0 bb n vin vval (V + dv + a) (K + dc + c) w' σ' F') (hf : FrB bb wr w') (hx : Ext n σ F σ' F' a c) :
    LawI w0 W4 bb n V K vin vval σ0 F0 W bits k w' σ' F' vl vw zs (dv + a) (dc + c) :=
  ⟨by rw [← Nat.add_assoc, ← Nat.add_assoc]; exact hb, h.ext.trans hx (Nat.le_refl _) (Nat.le_refl _), h.fr.trans hf, owns_keep h.ol fun j hj => (hf.keep j (h.al j hj)).2, fun j hj => (hf.keep j (h.al j hj)).1, owns_keep h.ow fun j hj => (hf.keep j (h.aw j hj)).2, fun j hj => (hf.keep j (h.aw j hj)).1, h.lz.ext hx, h.w3, h.ci,
    by rw [valsM_ext fun v hv => hx.old v (by have := h.bas.st.c.good.inp; omega)]; exact h.cv⟩
/-- A step that turns nothing of the circuit. -/
theorem LawI.same (h : LawI w0 W4 bb n V K vin vval σ0 F0 W bits k wr σ F vl vw zs dv dc) (hb : Below wr.heap.size wr w') : LawI w0 W4 bb n V K vin vval σ0 F0 W bits k w' σ F vl vw zs dv dc :=
  have hf := FrB.of_below h.bas.st.c.b hb
  ⟨h.bas.fr hb, h.ext, h.fr.trans hf, owns_keep h.ol fun j hj => (hf.keep j (h.al j hj)).2, fun j hj => (hf.keep j (h.al j hj)).1, owns_keep h.ow fun j hj => (hf.keep j (h.aw j hj)).2, fun j hj => (hf.keep j (h.aw j hj)).1, h.lz, h.w3, h.ci, h.cv⟩
/-- The list of literals grows. -/
theorem LawI.lits (h : LawI w0 W4 bb n V K vin vval σ0 F0 W bits k wr σ F vl vw zs dv dc) (hg : wr.grownBy w' vl.ownBlock) {zs2 : List Int} {m : Nat} (ho : w'.ownsRow W4.heap.size 3 1 vl' (k + m) ((zs ++ zs2).map (Value.int .i64))) (hv : vl'.ownBlock = vl.ownBlock ∨ vl'.ownBlock = some wr.heap.size) :
    Bas w0 bb n vin vval (V + dv) (K + dc) w' σ F ∧ FrB bb W4 w' ∧ (∀ j, Away bb wr j → Away bb w' j) ∧ w'.ownsRow W4.heap.size 4 1 vw k (bits.map Value.bool) ∧ (∀ j, vl'.ownBlock = some j → Away bb w' j) ∧ (∀ j, vw.ownBlock = some j → Away bb w' j) := by
  obtain ⟨h1, h2, h3⟩ := h.bas.grown h.fr h.ci h.cv h.w3 hg (fun r hr => ⟨h.al r hr, (h.ol.lt r hr).1⟩)
  refine ⟨h1, h2, h3, owns_keep h.ow fun j hj => hg.block j (h.ow.lt j hj).2 (fun e => own_ne h.ol h.ow (by decide) j e.symm hj), fun j hj => ?_, fun j hj => h3 j (h.aw j hj)⟩
  rcases hv with e | e
  · exact h3 j (h.al j (by rw [← e]; exact hj))
  · have hlt := (ho.lt j hj).2
    rw [e] at hj
    cases hj
    exact h.bas.st.c.b.grown_new hg (fun r hr => h.al r hr) (Nat.le_refl _) hlt
/-- .. and that of the wanted values. -/
theorem LawI.want {w1 : World} {zs2 : List Int} {bs2 : List Bool} {k2 : Nat} (h : Bas w0 bb n vin vval (V + dv) (K + dc) w1 σ F) (hext : Ext n σ0 F0 σ F dv dc) (hfr : FrB bb W4 w1) (hol : w1.ownsRow W4.heap.size 3 1 vl k2 ((zs ++ zs2).map (Value.int .i64))) (hal : ∀ j, vl.ownBlock = some j → Away bb w1 j)
    (how : w1.ownsRow W4.heap.size 4 1 vw k (bits.map Value.bool)) (haw : ∀ j, vw.ownBlock = some j → Away bb w1 j) (hg : w1.grownBy w' vw.ownBlock) (ho : w'.ownsRow W4.heap.size 4 1 vw' k2 ((bits ++ bs2).map Value.bool)) (hv : vw'.ownBlock = vw.ownBlock ∨ vw'.ownBlock = some w1.heap.size)
    (hz : LitsAre σ F (zs ++ zs2) (bits ++ bs2)) (h3 : w0.heap.size ≤ W4.heap.size) (ci : Ints (Away bb W4) W4 vin (insM n)) (cv : Bools (Away bb W4) W4 vval (valsM n σ)) :
    LawI w0 W4 bb n V K vin vval σ0 F0 W (bits ++ bs2) k2 w' σ F vl vw' (zs ++ zs2) dv dc := by
  obtain ⟨b1, b2, b3⟩ := h.grown hfr ci cv h3 hg (fun r hr => ⟨haw r hr, (how.lt r hr).1⟩)
  refine ⟨b1, hext, b2, owns_keep hol fun j hj => hg.block j (hol.lt j hj).2 (fun e => own_ne hol how (by decide) j hj e.symm), fun j hj => b3 j (hal j hj), ho, fun j hj => ?_, hz, h3, ci, cv⟩
  rcases hv with e | e
  · exact b3 j (haw j (by rw [← e]; exact hj))
  · have hlt := (ho.lt j hj).2
    rw [e] at hj
    cases hj
    exact h.st.c.b.grown_new hg (fun r hr => haw r hr) (Nat.le_refl _) hlt
end

end Go.Proofs.YtjcnhnifageikaaDoor
