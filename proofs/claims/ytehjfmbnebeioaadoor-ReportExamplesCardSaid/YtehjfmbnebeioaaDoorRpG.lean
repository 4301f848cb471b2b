/-
  The walk of law 39's Few.
-/
import Derived.Test.YtehjfmbnebeioaaDoorRpF
import Derived.Test.YtehjfmbnebeioaaDoorRpA
namespace Go.Proofs.YtehjfmbnebeioaaDoor
set_option linter.unusedSimpArgs false
set_option linter.unusedVariables false
open Go.RowKit Go.Shelf
attribute [local go_sem] Oper.semAt_some

theorem cutL_len (l : List (List Nat)) : (cutL l).length ≤ 10 := by unfold cutL; rw [List.length_map, List.length_take]; omega
theorem cutin_post (l : List (List Nat)) (v : Value) (R : Nat → Prop) (w : World) (hv : NLL R w v l) (hR : ∀ i, R i → i < w.heap.size) (hl2 : ∀ x ∈ l, x.length ≤ 17592186044415) :
    Calls Tryd.prog 40 #[v] w fun e w' => Below w.heap.size w w' ∧ ∃ p c, e = .returned (.slice p (cutL l).length c) ∧ NLL (fun i => w.heap.size ≤ i ∧ i < w'.heap.size) w' (.slice p (cutL l).length c) (cutL l) := by
  refine (cutin_any l v R w hv hR hl2).mono ?_
  rintro e w' ⟨⟨u, vs, rfl, ho⟩, hb⟩
  obtain ⟨p, c, rfl⟩ := owns_sliceL ho.1
  exact ⟨hb, p, c, rfl, ho.nll (by have := cutL_len l; omega)⟩
theorem heap_set_cell {W : World} {g i : Nat} {t : TypeId} {cs : Array Value} (h : W.heap[g]? = some (.cells cs t (0, 0))) (u : Value) : (W.setCell ⟨g, i, none⟩ u).heap[g]? = some (.cells (cs.setIfInBounds i u) t (0, 0)) := heap_setCell_same W g i cs t u h
/-- A block of ten cells is written over. -/
theorem set10 {w : World} {g : Nat} {t : TypeId} {z0 z1 z2 z3 z4 z5 z6 z7 z8 z9 : Value} (h : w.heap[g]? = some (.cells #[z0, z1, z2, z3, z4, z5, z6, z7, z8, z9] t (0, 0))) (a0 a1 a2 a3 a4 a5 a6 a7 a8 a9 : Value) :
    ((World.setCell (World.setCell (World.setCell (World.setCell (World.setCell (World.setCell (World.setCell (World.setCell (World.setCell (World.setCell w ⟨g, 0, none⟩ a0) ⟨g, 1, none⟩ a1) ⟨g, 2, none⟩ a2) ⟨g, 3, none⟩ a3) ⟨g, 4, none⟩ a4) ⟨g, 5, none⟩ a5) ⟨g, 6, none⟩ a6) ⟨g, 7, none⟩ a7) ⟨g, 8, none⟩ a8) ⟨g, 9, none⟩ a9)).heap[g]? = some (.cells #[a0, a1, a2, a3, a4, a5, a6, a7, a8, a9] t (0, 0)) ∧ (∀ j, j ≠ g → ((World.setCell (World.setCell (World.setCell (World.setCell (World.setCell (World.setCell (World.setCell (World.setCell (World.setCell (World.setCell w ⟨g, 0, none⟩ a0) ⟨g, 1, none⟩ a1) ⟨g, 2, none⟩ a2) ⟨g, 3, none⟩ a3) ⟨g, 4, none⟩ a4) ⟨g, 5, none⟩ a5) ⟨g, 6, none⟩ a6) ⟨g, 7, none⟩ a7) ⟨g, 8, none⟩ a8) ⟨g, 9, none⟩ a9)).heap[j]? = w.heap[j]?) ∧ ((World.setCell (World.setCell (World.setCell (World.setCell (World.setCell (World.setCell (World.setCell (World.setCell (World.setCell (World.setCell w ⟨g, 0, none⟩ a0) ⟨g, 1, none⟩ a1) ⟨g, 2, none⟩ a2) ⟨g, 3, none⟩ a3) ⟨g, 4, none⟩ a4) ⟨g, 5, none⟩ a5) ⟨g, 6, none⟩ a6) ⟨g, 7, none⟩ a7) ⟨g, 8, none⟩ a8) ⟨g, 9, none⟩ a9)).heap.size = w.heap.size ∧ ∀ {B : Nat} {a : World}, Below B a w → B ≤ g → Below B a ((World.setCell (World.setCell (World.setCell (World.setCell (World.setCell (World.setCell (World.setCell (World.setCell (World.setCell (World.setCell w ⟨g, 0, none⟩ a0) ⟨g, 1, none⟩ a1) ⟨g, 2, none⟩ a2) ⟨g, 3, none⟩ a3) ⟨g, 4, none⟩ a4) ⟨g, 5, none⟩ a5) ⟨g, 6, none⟩ a6) ⟨g, 7, none⟩ a7) ⟨g, 8, none⟩ a8) ⟨g, 9, none⟩ a9)) := by
  refine ⟨?_, fun j hj => ?_, by simp only [World.size_setCell], fun hb hB => ?_⟩
  · have := heap_set_cell (i := 9) (heap_set_cell (i := 8) (heap_set_cell (i := 7) (heap_set_cell (i := 6) (heap_set_cell (i := 5) (heap_set_cell (i := 4) (heap_set_cell (i := 3) (heap_set_cell (i := 2) (heap_set_cell (i := 1) (heap_set_cell (i := 0) (h) a0) a1) a2) a3) a4) a5) a6) a7) a8) a9
    simpa using this
  · exact (Below.heap_setCell _ _ _ _ hj).trans ((Below.heap_setCell _ _ _ _ hj).trans ((Below.heap_setCell _ _ _ _ hj).trans ((Below.heap_setCell _ _ _ _ hj).trans ((Below.heap_setCell _ _ _ _ hj).trans ((Below.heap_setCell _ _ _ _ hj).trans ((Below.heap_setCell _ _ _ _ hj).trans ((Below.heap_setCell _ _ _ _ hj).trans ((Below.heap_setCell _ _ _ _ hj).trans (Below.heap_setCell _ _ _ _ hj)))))))))
  · exact ((((((((((hb).setCell (p := ⟨g, 0, none⟩) hB a0).setCell (p := ⟨g, 1, none⟩) hB a1).setCell (p := ⟨g, 2, none⟩) hB a2).setCell (p := ⟨g, 3, none⟩) hB a3).setCell (p := ⟨g, 4, none⟩) hB a4).setCell (p := ⟨g, 5, none⟩) hB a5).setCell (p := ⟨g, 6, none⟩) hB a6).setCell (p := ⟨g, 7, none⟩) hB a7).setCell (p := ⟨g, 8, none⟩) hB a8).setCell (p := ⟨g, 9, none⟩) hB a9
def FewPost (k r : Nat) (lv : Int) (A B : List (List Nat)) (imp pol : Bool) (ln co er : Int)  (w : World) (e : Ending) (w' : World) : Prop :=
  Below w.heap.size w w' ∧ ∃ p1 c1 p2 c2, e = .returned (.agg #[.int .u8 (k : Int), .int .u8 (r : Int), .int .i64 lv, .slice p1 (cutL A).length c1, .slice p2 (cutL B).length c2, .bool imp, .bool pol, .int .i64 ln, .int .i64 co, .int .i64 er]) ∧ NLL (fun i => w.heap.size ≤ i ∧ i < w'.heap.size) w' (.slice p1 (cutL A).length c1) (cutL A) ∧ NLL (fun i => w.heap.size ≤ i ∧ i < w'.heap.size) w' (.slice p2 (cutL B).length c2) (cutL B)
set_option maxRecDepth 100000 in
set_option maxHeartbeats 4000000 in
theorem few_any (k r : Nat) (lv : Int) (A B : List (List Nat)) (imp pol : Bool) (ln co er : Int) (pA pB : Option Addr) (cA cB : Nat) (R : Nat → Prop) (w : World) (hA : NLL R w (.slice pA A.length cA) A) (hB : NLL R w (.slice pB B.length cB) B) (hR : ∀ i, R i → i < w.heap.size) (hlA : ∀ x ∈ A, x.length ≤ 17592186044415) (hlB : ∀ x ∈ B, x.length ≤ 17592186044415) :
    Calls Tryd.prog 26 #[.agg #[.int .u8 (k : Int), .int .u8 (r : Int), .int .i64 lv, .slice pA A.length cA, .slice pB B.length cB, .bool imp, .bool pol, .int .i64 ln, .int .i64 co, .int .i64 er]] w (FewPost k r lv A B imp pol ln co er w) := by
  obtain ⟨W0, hW0⟩ : ∃ W, (w.alloc (.cells #[.int .u8 (k : Int), .int .u8 (r : Int), .int .i64 lv, .slice pA A.length cA, .slice pB B.length cB, .bool imp, .bool pol, .int .i64 ln, .int .i64 co, .int .i64 er] 35)).alloc (.cells #[.int .u8 0, .int .u8 0, .int .i64 0, .slice none 0 0, .slice none 0 0, .bool false, .bool false, .int .i64 0, .int .i64 0, .int .i64 0] 35) = W := ⟨_, rfl⟩
  have hb0 : Below w.heap.size w W0 := by rw [← hW0]; exact ((Below.refl _ _).alloc (Nat.le_refl _) _).alloc (by rw [World.size_alloc]; omega) _
  have hz0 : W0.heap.size = w.heap.size + 2 := by rw [← hW0, World.size_alloc, World.size_alloc]
  have hc0 : W0.heap[w.heap.size]? = some (.cells #[.int .u8 (k : Int), .int .u8 (r : Int), .int .i64 lv, .slice pA A.length cA, .slice pB B.length cB, .bool imp, .bool pol, .int .i64 ln, .int .i64 co, .int .i64 er] 35 (0, 0)) := by rw [← hW0, heap_al, if_neg (by rw [World.size_alloc]; omega), heap_al, if_pos rfl]
  have hc1 : W0.heap[w.heap.size + 1]? = some (.cells #[.int .u8 0, .int .u8 0, .int .i64 0, .slice none 0 0, .slice none 0 0, .bool false, .bool false, .int .i64 0, .int .i64 0, .int .i64 0] 35 (0, 0)) := by rw [← hW0, heap_al, if_pos (by rw [World.size_alloc])]
  have d3 : W0.cell? ⟨w.heap.size, 3, none⟩ = some (.slice pA A.length cA) := by rw [cell_of_row W0 _ 3 _ _ _ hc0]; rfl
  have d4 : W0.cell? ⟨w.heap.size, 4, none⟩ = some (.slice pB B.length cB) := by rw [cell_of_row W0 _ 4 _ _ _ hc0]; rfl
  have HB0 := hid hb0; have HZ := hid hz0; have HC0 := hid hc0; have HZ0 := hid hc1; have HWW := hid hW0
  have HCA := hid (fun W (hW : Below W0.heap.size W0 W) => cutin_post A (.slice pA A.length cA) (fun i => i < w.heap.size) W (hA.keep fun i hi => ⟨hR i hi, (hW.block i (by rw [hz0]; have := hR i hi; omega)).trans (hb0.block i (hR i hi))⟩) (fun i hi => by have := hW.size; have hi : i < w.heap.size := hi; omega) hlA)
  have HCB := hid (fun W (hW : Below W0.heap.size W0 W) => cutin_post B (.slice pB B.length cB) (fun i => i < w.heap.size) W (hB.keep fun i hi => ⟨hR i hi, (hW.block i (by rw [hz0]; have := hR i hi; omega)).trans (hb0.block i (hR i hi))⟩) (fun i hi => by have := hW.size; have hi : i < w.heap.size := hi; omega) hlB)
  have HLT := hid (show w.heap.size < W0.heap.size ∧ w.heap.size + 1 < W0.heap.size from by omega)
  have HS := hid (show ∀ W', Below W0.heap.size W0 W' → (fun W' : World => W'.cell? ⟨w.heap.size, 3, none⟩ = some (.slice pA A.length cA) ∧ W'.cell? ⟨w.heap.size, 4, none⟩ = some (.slice pB B.length cB)) W' from fun W' h => ⟨(h.cell (p := ⟨w.heap.size, 3, none⟩) HLT.out.1).trans d3, (h.cell (p := ⟨w.heap.size, 4, none⟩) HLT.out.1).trans d4⟩)
  have hS : (fun W' : World => W'.cell? ⟨w.heap.size, 3, none⟩ = some (.slice pA A.length cA) ∧ W'.cell? ⟨w.heap.size, 4, none⟩ = some (.slice pB B.length cB)) W0.drew := ⟨d3, d4⟩
  have HPOST := hid (show FewPost k r lv A B imp pol ln co er w = FewPost k r lv A B imp pol ln co er w from rfl)
  clear hA hB hR hlA hlB hb0 hz0 hc0 hc1 hW0 d3 d4
  unfold FewPost at *
  generalize cutL A = LA at *
  generalize cutL B = LB at *
  go_enter Tryd.func26, Tryd.ntmps26
  go_wp2_with fail
  rw [HWW.out]
  have hFa : ∀ f, Fence.wide.fn f := fun _ => trivial
  refine (wpIn_wide (n := 9)).1 ?_
  refine wpIn_onlyN ?_
  refine wpIn_region_HJ (fun W' : World => W'.cell? ⟨w.heap.size, 3, none⟩ = some (.slice pA A.length cA) ∧ W'.cell? ⟨w.heap.size, 4, none⟩ = some (.slice pB B.length cB)) 12 (by kernel_rfl) ?_
  simp only [List.size_toArray, List.length_cons, List.length_nil, Nat.reduceAdd]
  refine wpHJ_pure (v := ?vg0) 0 hFa rfl (by kernel_rfl) (fun _ _ _ h => h.elim) (Or.inl ⟨by rfl, ?yg0⟩) (.inr hS) ?rg0
  case yg0 => (intro w' _; go_simp; try rfl)
  simp only [Act.put, List.getElem_toArray, List.getElem_cons_succ, List.getElem_cons_zero, List.setIfInBounds_toArray, List.set_cons_zero, List.set_cons_succ]
  refine wpHJ_pure (v := ?vg1) 1 hFa rfl (by kernel_rfl) (fun _ _ _ h => h.elim) (Or.inl ⟨by rfl, ?yg1⟩) (.inr hS) ?rg1
  case yg1 => (intro w' _; go_simp; try rfl)
  simp only [Act.put, List.getElem_toArray, List.getElem_cons_succ, List.getElem_cons_zero, List.setIfInBounds_toArray, List.set_cons_zero, List.set_cons_succ]
  refine wpHJ_pure (v := ?vg2) 2 hFa rfl (by kernel_rfl) (fun _ _ _ h => h.elim) (Or.inl ⟨by rfl, ?yg2⟩) (.inr hS) ?rg2
  case yg2 => (intro w' _; go_simp; try rfl)
  simp only [Act.put, List.getElem_toArray, List.getElem_cons_succ, List.getElem_cons_zero, List.setIfInBounds_toArray, List.set_cons_zero, List.set_cons_succ]
  refine wpHJ_take (v := ?vg3) 3 hFa rfl (by kernel_rfl) (fun _ _ _ h => h.elim) (Or.inl ⟨by rfl, ?yg3⟩) hS ?rg3
  case yg3 => (intro w' hS'; obtain ⟨s0, s1⟩ := hS'; go_simp; try rfl)
  simp only [Act.put, List.getElem_toArray, List.getElem_cons_succ, List.getElem_cons_zero, List.setIfInBounds_toArray, List.set_cons_zero, List.set_cons_succ]
  refine wpHJ_pure (v := ?vg5) 5 hFa rfl (by kernel_rfl) (fun _ _ _ h => h.elim) (Or.inl ⟨by rfl, ?yg5⟩) (.inr hS) ?rg5
  case yg5 => (intro w' _; go_simp; try rfl)
  simp only [Act.put, List.getElem_toArray, List.getElem_cons_succ, List.getElem_cons_zero, List.setIfInBounds_toArray, List.set_cons_zero, List.set_cons_succ]
  refine wpHJ_pure (v := ?vg6) 6 hFa rfl (by kernel_rfl) (fun _ _ _ h => h.elim) (Or.inl ⟨by rfl, ?yg6⟩) (.inr hS) ?rg6
  case yg6 => (intro w' _; go_simp; try rfl)
  simp only [Act.put, List.getElem_toArray, List.getElem_cons_succ, List.getElem_cons_zero, List.setIfInBounds_toArray, List.set_cons_zero, List.set_cons_succ]
  refine wpHJ_pure (v := ?vg7) 7 hFa rfl (by kernel_rfl) (fun _ _ _ h => h.elim) (Or.inl ⟨by rfl, ?yg7⟩) (.inr hS) ?rg7
  case yg7 => (intro w' _; go_simp; try rfl)
  simp only [Act.put, List.getElem_toArray, List.getElem_cons_succ, List.getElem_cons_zero, List.setIfInBounds_toArray, List.set_cons_zero, List.set_cons_succ]
  refine wpHJ_take (v := ?vg8) 8 hFa rfl (by kernel_rfl) (fun _ _ _ h => h.elim) (Or.inl ⟨by rfl, ?yg8⟩) hS ?rg8
  case yg8 => (intro w' hS'; obtain ⟨s0, s1⟩ := hS'; go_simp; try rfl)
  simp only [Act.put, List.getElem_toArray, List.getElem_cons_succ, List.getElem_cons_zero, List.setIfInBounds_toArray, List.set_cons_zero, List.set_cons_succ]
  clear hS
  have HBd := hid (show Below W0.heap.size W0 W0.drew from ⟨rfl, rfl, rfl, Nat.le_refl _, fun _ _ => rfl⟩)
  generalize W0.drew = wd at *
  refine wpHJ_only 4 (by kernel_rfl) rfl ?_
  intro K hK
  go_simp
  (with_reducible refine (callsIn_wide.2 (HCA.out wd HBd.out)).mono ?_)
  rintro e w2 ⟨hb2, p1, c1, rfl, hn1⟩
  have HB2 := hid (HBd.out.trans (hb2.mono HBd.out.size))
  have HN1 := hid hn1
  have HB2' := hid hb2
  clear hb2 hn1
  refine hK _ _ (.inr (.inr (HS.out w2 HB2.out))) ?_
  clear hK K
  refine wpHJ_pure (v := ?vg10) 10 hFa rfl (by kernel_rfl) (fun _ _ _ h => h.elim) (Or.inl ⟨by rfl, ?yg10⟩) (.inr (HS.out w2 HB2.out)) ?rg10
  case yg10 => (intro w' _; go_simp; try rfl)
  simp only [Act.put, List.getElem_toArray, List.getElem_cons_succ, List.getElem_cons_zero, List.setIfInBounds_toArray, List.set_cons_zero, List.set_cons_succ]
  refine wpHJ_pure (v := ?vg11) 11 hFa rfl (by kernel_rfl) (fun _ _ _ h => h.elim) (Or.inl ⟨by rfl, ?yg11⟩) (.inr (HS.out w2 HB2.out)) ?rg11
  case yg11 => (intro w' _; go_simp; try rfl)
  simp only [Act.put, List.getElem_toArray, List.getElem_cons_succ, List.getElem_cons_zero, List.setIfInBounds_toArray, List.set_cons_zero, List.set_cons_succ]
  refine wpHJ_only 9 (by kernel_rfl) rfl ?_
  intro K hK
  go_simp
  (with_reducible refine (callsIn_wide.2 (HCB.out w2 HB2.out)).mono ?_)
  rintro e w3 ⟨hb3, p2, c2, rfl, hn2⟩
  have HB3 := hid (HB2.out.trans (hb3.mono HB2.out.size))
  have HN2 := hid hn2
  have HB3' := hid hb3
  clear hb3 hn2
  have hC3 := (HB3.out.block w.heap.size HLT.out.1).trans HC0.out
  have hZ3 := (HB3.out.block (w.heap.size + 1) HLT.out.2).trans HZ0.out
  have HC3 := hid hC3; have HZ3 := hid hZ3
  have f3 : w3.frozen? ⟨w.heap.size, 3, none⟩ = false := frozen_of_row w3 _ 3 _ _ hC3
  have f4 : w3.frozen? ⟨w.heap.size, 4, none⟩ = false := frozen_of_row w3 _ 4 _ _ hC3
  have c3 : w3.cell? ⟨w.heap.size, 3, none⟩ = some (.slice pA A.length cA) := by rw [cell_of_row w3 _ 3 _ _ _ hC3]; rfl
  have c4 : w3.cell? ⟨w.heap.size, 4, none⟩ = some (.slice pB B.length cB) := by rw [cell_of_row w3 _ 4 _ _ _ hC3]; rfl
  clear hC3 hZ3
  refine hK _ _ (.inr (.inr (HS.out w3 HB3.out))) ?_
  clear hK K
  refine wpHJ_only 12 (by kernel_rfl) rfl ?_
  intro K hK
  go_simp
  refine hK _ _ (.inl rfl) ?_
  clear hK K
  refine wpHJ_pure (v := ?vg13) 13 hFa rfl (by kernel_rfl) (fun _ _ _ h => h.elim) (Or.inl ⟨by rfl, ?yg13⟩) (.inl rfl) ?rg13
  case yg13 => (intro w' _; go_simp; try rfl)
  simp only [Act.put, List.getElem_toArray, List.getElem_cons_succ, List.getElem_cons_zero, List.setIfInBounds_toArray, List.set_cons_zero, List.set_cons_succ]
  refine wpHJ_pure (v := ?vg14) 14 hFa rfl (by kernel_rfl) (fun _ _ _ h => h.elim) (Or.inl ⟨by rfl, ?yg14⟩) (.inl rfl) ?rg14
  case yg14 => (intro w' _; go_simp; try rfl)
  simp only [Act.put, List.getElem_toArray, List.getElem_cons_succ, List.getElem_cons_zero, List.setIfInBounds_toArray, List.set_cons_zero, List.set_cons_succ]
  refine wpHJ_only 15 (by kernel_rfl) rfl ?_
  intro K hK
  go_simp
  refine hK _ _ (.inr (.inl rfl)) ?_
  clear hK K
  refine wpHJ_done (by kernel_rfl) ?_ _
  simp only [onlyN, Exit.then]
  clear hFa
  have hC4 := heap_set_cell (i := 4) (heap_set_cell (i := 3) HC3.out (.slice p1 LA.length c1)) (.slice p2 LB.length c2)
  have hZ4 : ((w3.setCell ⟨w.heap.size, 3, none⟩ (.slice p1 LA.length c1)).setCell ⟨w.heap.size, 4, none⟩ (.slice p2 LB.length c2)).heap[w.heap.size + 1]? = some (.cells #[.int .u8 0, .int .u8 0, .int .i64 0, .slice none 0 0, .slice none 0 0, .bool false, .bool false, .int .i64 0, .int .i64 0, .int .i64 0] 35 (0, 0)) := (Below.heap_setCell _ _ _ _ (by show w.heap.size + 1 ≠ w.heap.size; omega)).trans ((Below.heap_setCell _ _ _ _ (by show w.heap.size + 1 ≠ w.heap.size; omega)).trans HZ3.out)
  have hk4 : ∀ j, j ≠ w.heap.size → ((w3.setCell ⟨w.heap.size, 3, none⟩ (.slice p1 LA.length c1)).setCell ⟨w.heap.size, 4, none⟩ (.slice p2 LB.length c2)).heap[j]? = w3.heap[j]? := fun j hj => (Below.heap_setCell _ _ _ _ hj).trans (Below.heap_setCell _ _ _ _ hj)
  have hb4 : Below w.heap.size w ((w3.setCell ⟨w.heap.size, 3, none⟩ (.slice p1 LA.length c1)).setCell ⟨w.heap.size, 4, none⟩ (.slice p2 LB.length c2)) := ((HB0.out.trans (HB3.out.mono (by rw [HZ.out]; omega))).setCell (Nat.le_refl _) _).setCell (Nat.le_refl _) _
  have hs4 : ((w3.setCell ⟨w.heap.size, 3, none⟩ (.slice p1 LA.length c1)).setCell ⟨w.heap.size, 4, none⟩ (.slice p2 LB.length c2)).heap.size = w3.heap.size := by rw [World.size_setCell, World.size_setCell]
  clear f3 f4 c3 c4
  generalize (w3.setCell ⟨w.heap.size, 3, none⟩ (.slice p1 LA.length c1)).setCell ⟨w.heap.size, 4, none⟩ (.slice p2 LB.length c2) = w4 at *
  have x0 : w4.cell? ⟨w.heap.size, 0, none⟩ = some (.int .u8 (k : Int)) := by rw [cell_of_row w4 _ 0 _ _ _ hC4]; rfl
  have y0 : w4.frozen? ⟨w.heap.size + 1, 0, none⟩ = false := frozen_of_row w4 _ 0 _ _ hZ4
  have z0 : w4.cell? ⟨w.heap.size + 1, 0, none⟩ = some (.int .u8 0) := by rw [cell_of_row w4 _ 0 _ _ _ hZ4]; rfl
  have x1 : w4.cell? ⟨w.heap.size, 1, none⟩ = some (.int .u8 (r : Int)) := by rw [cell_of_row w4 _ 1 _ _ _ hC4]; rfl
  have y1 : w4.frozen? ⟨w.heap.size + 1, 1, none⟩ = false := frozen_of_row w4 _ 1 _ _ hZ4
  have z1 : w4.cell? ⟨w.heap.size + 1, 1, none⟩ = some (.int .u8 0) := by rw [cell_of_row w4 _ 1 _ _ _ hZ4]; rfl
  have x2 : w4.cell? ⟨w.heap.size, 2, none⟩ = some (.int .i64 lv) := by rw [cell_of_row w4 _ 2 _ _ _ hC4]; rfl
  have y2 : w4.frozen? ⟨w.heap.size + 1, 2, none⟩ = false := frozen_of_row w4 _ 2 _ _ hZ4
  have z2 : w4.cell? ⟨w.heap.size + 1, 2, none⟩ = some (.int .i64 0) := by rw [cell_of_row w4 _ 2 _ _ _ hZ4]; rfl
  have x3 : w4.cell? ⟨w.heap.size, 3, none⟩ = some (.slice p1 LA.length c1) := by rw [cell_of_row w4 _ 3 _ _ _ hC4]; rfl
  have y3 : w4.frozen? ⟨w.heap.size + 1, 3, none⟩ = false := frozen_of_row w4 _ 3 _ _ hZ4
  have z3 : w4.cell? ⟨w.heap.size + 1, 3, none⟩ = some (.slice none 0 0) := by rw [cell_of_row w4 _ 3 _ _ _ hZ4]; rfl
  have x4 : w4.cell? ⟨w.heap.size, 4, none⟩ = some (.slice p2 LB.length c2) := by rw [cell_of_row w4 _ 4 _ _ _ hC4]; rfl
  have y4 : w4.frozen? ⟨w.heap.size + 1, 4, none⟩ = false := frozen_of_row w4 _ 4 _ _ hZ4
  have z4 : w4.cell? ⟨w.heap.size + 1, 4, none⟩ = some (.slice none 0 0) := by rw [cell_of_row w4 _ 4 _ _ _ hZ4]; rfl
  have x5 : w4.cell? ⟨w.heap.size, 5, none⟩ = some (.bool imp) := by rw [cell_of_row w4 _ 5 _ _ _ hC4]; rfl
  have y5 : w4.frozen? ⟨w.heap.size + 1, 5, none⟩ = false := frozen_of_row w4 _ 5 _ _ hZ4
  have z5 : w4.cell? ⟨w.heap.size + 1, 5, none⟩ = some (.bool false) := by rw [cell_of_row w4 _ 5 _ _ _ hZ4]; rfl
  have x6 : w4.cell? ⟨w.heap.size, 6, none⟩ = some (.bool pol) := by rw [cell_of_row w4 _ 6 _ _ _ hC4]; rfl
  have y6 : w4.frozen? ⟨w.heap.size + 1, 6, none⟩ = false := frozen_of_row w4 _ 6 _ _ hZ4
  have z6 : w4.cell? ⟨w.heap.size + 1, 6, none⟩ = some (.bool false) := by rw [cell_of_row w4 _ 6 _ _ _ hZ4]; rfl
  have x7 : w4.cell? ⟨w.heap.size, 7, none⟩ = some (.int .i64 ln) := by rw [cell_of_row w4 _ 7 _ _ _ hC4]; rfl
  have y7 : w4.frozen? ⟨w.heap.size + 1, 7, none⟩ = false := frozen_of_row w4 _ 7 _ _ hZ4
  have z7 : w4.cell? ⟨w.heap.size + 1, 7, none⟩ = some (.int .i64 0) := by rw [cell_of_row w4 _ 7 _ _ _ hZ4]; rfl
  have x8 : w4.cell? ⟨w.heap.size, 8, none⟩ = some (.int .i64 co) := by rw [cell_of_row w4 _ 8 _ _ _ hC4]; rfl
  have y8 : w4.frozen? ⟨w.heap.size + 1, 8, none⟩ = false := frozen_of_row w4 _ 8 _ _ hZ4
  have z8 : w4.cell? ⟨w.heap.size + 1, 8, none⟩ = some (.int .i64 0) := by rw [cell_of_row w4 _ 8 _ _ _ hZ4]; rfl
  have x9 : w4.cell? ⟨w.heap.size, 9, none⟩ = some (.int .i64 er) := by rw [cell_of_row w4 _ 9 _ _ _ hC4]; rfl
  have y9 : w4.frozen? ⟨w.heap.size + 1, 9, none⟩ = false := frozen_of_row w4 _ 9 _ _ hZ4
  have z9 : w4.cell? ⟨w.heap.size + 1, 9, none⟩ = some (.int .i64 0) := by rw [cell_of_row w4 _ 9 _ _ _ hZ4]; rfl
  have HC4 := hid hC4; have HZ4 := hid hZ4; have HK4 := hid hk4; have HB4 := hid hb4; have HS4 := hid hs4
  clear hC4 hZ4 hk4 hb4 hs4
  go_wp2_with fail
  obtain ⟨g5, k5, s5, b5⟩ := set10 HZ4.out (.int .u8 (k : Int)) (.int .u8 (r : Int)) (.int .i64 lv) (.slice p1 LA.length c1) (.slice p2 LB.length c2) (.bool imp) (.bool pol) (.int .i64 ln) (.int .i64 co) (.int .i64 er)
  have hb5 := b5 HB4.out (by omega)
  generalize ((((((((((w4).setCell ⟨w.heap.size + 1, 0, none⟩ (.int .u8 (k : Int))).setCell ⟨w.heap.size + 1, 1, none⟩ (.int .u8 (r : Int))).setCell ⟨w.heap.size + 1, 2, none⟩ (.int .i64 lv)).setCell ⟨w.heap.size + 1, 3, none⟩ (.slice p1 LA.length c1)).setCell ⟨w.heap.size + 1, 4, none⟩ (.slice p2 LB.length c2)).setCell ⟨w.heap.size + 1, 5, none⟩ (.bool imp)).setCell ⟨w.heap.size + 1, 6, none⟩ (.bool pol)).setCell ⟨w.heap.size + 1, 7, none⟩ (.int .i64 ln)).setCell ⟨w.heap.size + 1, 8, none⟩ (.int .i64 co)).setCell ⟨w.heap.size + 1, 9, none⟩ (.int .i64 er) = w5 at *
  have q0 : w5.cell? ⟨w.heap.size + 1, 0, none⟩ = some (.int .u8 (k : Int)) := by rw [cell_of_row w5 _ 0 _ _ _ g5]; rfl
  have q1 : w5.cell? ⟨w.heap.size + 1, 1, none⟩ = some (.int .u8 (r : Int)) := by rw [cell_of_row w5 _ 1 _ _ _ g5]; rfl
  have q2 : w5.cell? ⟨w.heap.size + 1, 2, none⟩ = some (.int .i64 lv) := by rw [cell_of_row w5 _ 2 _ _ _ g5]; rfl
  have q3 : w5.cell? ⟨w.heap.size + 1, 3, none⟩ = some (.slice p1 LA.length c1) := by rw [cell_of_row w5 _ 3 _ _ _ g5]; rfl
  have q4 : w5.cell? ⟨w.heap.size + 1, 4, none⟩ = some (.slice p2 LB.length c2) := by rw [cell_of_row w5 _ 4 _ _ _ g5]; rfl
  have q5 : w5.cell? ⟨w.heap.size + 1, 5, none⟩ = some (.bool imp) := by rw [cell_of_row w5 _ 5 _ _ _ g5]; rfl
  have q6 : w5.cell? ⟨w.heap.size + 1, 6, none⟩ = some (.bool pol) := by rw [cell_of_row w5 _ 6 _ _ _ g5]; rfl
  have q7 : w5.cell? ⟨w.heap.size + 1, 7, none⟩ = some (.int .i64 ln) := by rw [cell_of_row w5 _ 7 _ _ _ g5]; rfl
  have q8 : w5.cell? ⟨w.heap.size + 1, 8, none⟩ = some (.int .i64 co) := by rw [cell_of_row w5 _ 8 _ _ _ g5]; rfl
  have q9 : w5.cell? ⟨w.heap.size + 1, 9, none⟩ = some (.int .i64 er) := by rw [cell_of_row w5 _ 9 _ _ _ g5]; rfl
  refine bodyPost_ret (v := .agg #[.int .u8 (k : Int), .int .u8 (r : Int), .int .i64 lv, .slice p1 LA.length c1, .slice p2 LB.length c2, .bool imp, .bool pol, .int .i64 ln, .int .i64 co, .int .i64 er]) (by simp [results, Tryd.results26, go_sem, q0, q1, q2, q3, q4, q5, q6, q7, q8, q9]) rfl ⟨hb5, p1, c1, p2, c2, rfl, ?_, ?_⟩
  · have hd := HBd.out.size
    have h2 := HB2'.out.size
    have h3 := HB3'.out.size
    have hz := HZ.out
    have h4 := HS4.out
    exact HN1.out.keep fun i hi => ⟨⟨by omega, by omega⟩, (k5 i (by omega)).trans ((HK4.out i (by omega)).trans (HB3'.out.block i hi.2))⟩
  · have hd := HBd.out.size
    have h2 := HB2'.out.size
    have h3 := HB3'.out.size
    have hz := HZ.out
    have h4 := HS4.out
    exact HN2.out.keep fun i hi => ⟨⟨by omega, by omega⟩, (k5 i (by omega)).trans (HK4.out i (by omega))⟩

end Go.Proofs.YtehjfmbnebeioaaDoor
