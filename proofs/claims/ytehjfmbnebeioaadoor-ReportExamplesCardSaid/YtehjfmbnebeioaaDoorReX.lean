/-
  The law ReportExamples: a witness is copied.
-/
import Derived.Test.YtehjfmbnebeioaaDoorRpG
import Derived.Test.YtehjfmbnebeioaaDoorRpC
import Derived.Deep.DeepCutAuto
namespace Go.Proofs.YtehjfmbnebeioaaDoor
set_option linter.unusedSimpArgs false
set_option linter.unusedVariables false
open Go.RowKit Go.Shelf
attribute [local go_sem] Oper.semAt_some

theorem copyin_post (l : List (List Nat)) (v : Value) (R : Nat → Prop) (w : World) (hv : NLL R w v l) (hR : ∀ i, R i → i < w.heap.size) (hl : l.length ≤ 1000000) (hl2 : ∀ x ∈ l, x.length ≤ 17592186044415) :
    Calls Tryd.prog 41 #[v] w fun e w' => Below w.heap.size w w' ∧ ∃ p c, e = .returned (.slice p l.length c) ∧ NLL (fun i => w.heap.size ≤ i ∧ i < w'.heap.size) w' (.slice p l.length c) l := by
  refine (copyinputs_any l v R w hv hR hl hl2).mono ?_
  rintro e w' ⟨⟨u, vs, rfl, ho⟩, hb⟩
  obtain ⟨p, c, rfl⟩ := owns_sliceL ho.1
  exact ⟨hb, p, c, rfl, ho.nll hl⟩
theorem set4 {w : World} {g : Nat} {t : TypeId} {z0 z1 z2 z3 : Value} (h : w.heap[g]? = some (.cells #[z0, z1, z2, z3] t (0, 0))) (a0 a1 a2 a3 : Value) :
    ((((w.setCell ⟨g, 0, none⟩ a0).setCell ⟨g, 1, none⟩ a1).setCell ⟨g, 2, none⟩ a2).setCell ⟨g, 3, none⟩ a3).heap[g]? = some (.cells #[a0, a1, a2, a3] t (0, 0)) ∧ (∀ j, j ≠ g → ((((w.setCell ⟨g, 0, none⟩ a0).setCell ⟨g, 1, none⟩ a1).setCell ⟨g, 2, none⟩ a2).setCell ⟨g, 3, none⟩ a3).heap[j]? = w.heap[j]?) ∧ ((((w.setCell ⟨g, 0, none⟩ a0).setCell ⟨g, 1, none⟩ a1).setCell ⟨g, 2, none⟩ a2).setCell ⟨g, 3, none⟩ a3).heap.size = w.heap.size ∧ ∀ {B : Nat} {a : World}, Below B a w → B ≤ g → Below B a ((((w.setCell ⟨g, 0, none⟩ a0).setCell ⟨g, 1, none⟩ a1).setCell ⟨g, 2, none⟩ a2).setCell ⟨g, 3, none⟩ a3) := by
  refine ⟨?_, fun j hj => ?_, by simp only [World.size_setCell], fun hb hB => ?_⟩
  · have := heap_set_cell (i := 3) (heap_set_cell (i := 2) (heap_set_cell (i := 1) (heap_set_cell (i := 0) h a0) a1) a2) a3
    simpa using this
  · exact (Below.heap_setCell _ _ _ _ hj).trans ((Below.heap_setCell _ _ _ _ hj).trans ((Below.heap_setCell _ _ _ _ hj).trans (Below.heap_setCell _ _ _ _ hj)))
  · exact (((hb.setCell (p := ⟨g, 0, none⟩) hB a0).setCell (p := ⟨g, 1, none⟩) hB a1).setCell (p := ⟨g, 2, none⟩) hB a2).setCell (p := ⟨g, 3, none⟩) hB a3
set_option maxRecDepth 100000 in
set_option maxHeartbeats 4000000 in
theorem copywit_any (lv : Int) (A B : List (List Nat)) (imp : Bool) (pA pB : Option Addr) (cA cB : Nat) (R : Nat → Prop) (w : World) (hA : NLL R w (.slice pA A.length cA) A) (hB : NLL R w (.slice pB B.length cB) B) (hR : ∀ i, R i → i < w.heap.size) (hla : A.length ≤ 1000000) (hlb : B.length ≤ 1000000) (hlA : ∀ x ∈ A, x.length ≤ 17592186044415) (hlB : ∀ x ∈ B, x.length ≤ 17592186044415) :
    Calls Tryd.prog 28 #[.agg #[.int .i64 lv, .slice pA A.length cA, .slice pB B.length cB, .bool imp]] w fun e w' => Below w.heap.size w w' ∧ ∃ p1 c1 p2 c2, e = .returned (.agg #[.int .i64 lv, .slice p1 A.length c1, .slice p2 B.length c2, .bool imp]) ∧ NLL (fun i => w.heap.size ≤ i ∧ i < w'.heap.size) w' (.slice p1 A.length c1) A ∧ NLL (fun i => w.heap.size ≤ i ∧ i < w'.heap.size) w' (.slice p2 B.length c2) B := by
  obtain ⟨W0, hW0⟩ : ∃ W, (w.alloc (.cells #[.int .i64 lv, .slice pA A.length cA, .slice pB B.length cB, .bool imp] 31)).alloc (.cells #[.int .i64 0, .slice none 0 0, .slice none 0 0, .bool false] 31) = W := ⟨_, rfl⟩
  have hb0 : Below w.heap.size w W0 := by rw [← hW0]; exact ((Below.refl _ _).alloc (Nat.le_refl _) _).alloc (by rw [World.size_alloc]; omega) _
  have hz0 : W0.heap.size = w.heap.size + 2 := by rw [← hW0, World.size_alloc, World.size_alloc]
  have hc0 : W0.heap[w.heap.size]? = some (.cells #[.int .i64 lv, .slice pA A.length cA, .slice pB B.length cB, .bool imp] 31 (0, 0)) := by rw [← hW0, heap_al, if_neg (by rw [World.size_alloc]; omega), heap_al, if_pos rfl]
  have hc1 : W0.heap[w.heap.size + 1]? = some (.cells #[.int .i64 0, .slice none 0 0, .slice none 0 0, .bool false] 31 (0, 0)) := by rw [← hW0, heap_al, if_pos (by rw [World.size_alloc])]
  have d3 : W0.cell? ⟨w.heap.size, 1, none⟩ = some (.slice pA A.length cA) := by rw [cell_of_row W0 _ 1 _ _ _ hc0]; rfl
  have d4 : W0.cell? ⟨w.heap.size, 2, none⟩ = some (.slice pB B.length cB) := by rw [cell_of_row W0 _ 2 _ _ _ hc0]; rfl
  have HB0 := hid hb0; have HZ := hid hz0; have HC0 := hid hc0; have HZ0 := hid hc1; have HWW := hid hW0
  have HCA := hid (fun W (hW : Below W0.heap.size W0 W) => copyin_post A (.slice pA A.length cA) (fun i => i < w.heap.size) W (hA.keep fun i hi => ⟨hR i hi, (hW.block i (by rw [hz0]; have := hR i hi; omega)).trans (hb0.block i (hR i hi))⟩) (fun i hi => by have := hW.size; have := hb0.size; have hi : i < w.heap.size := hi; omega) hla hlA)
  have HCB := hid (fun W (hW : Below W0.heap.size W0 W) => copyin_post B (.slice pB B.length cB) (fun i => i < w.heap.size) W (hB.keep fun i hi => ⟨hR i hi, (hW.block i (by rw [hz0]; have := hR i hi; omega)).trans (hb0.block i (hR i hi))⟩) (fun i hi => by have := hW.size; have := hb0.size; have hi : i < w.heap.size := hi; omega) hlb hlB)
  have HLT := hid (show w.heap.size < W0.heap.size ∧ w.heap.size + 1 < W0.heap.size from by omega)
  have HS := hid (show ∀ W', Below W0.heap.size W0 W' → (fun W' : World => W'.cell? ⟨w.heap.size, 1, none⟩ = some (.slice pA A.length cA) ∧ W'.cell? ⟨w.heap.size, 2, none⟩ = some (.slice pB B.length cB)) W' from fun W' h => ⟨(h.cell (p := ⟨w.heap.size, 1, none⟩) HLT.out.1).trans d3, (h.cell (p := ⟨w.heap.size, 2, none⟩) HLT.out.1).trans d4⟩)
  have hS : (fun W' : World => W'.cell? ⟨w.heap.size, 1, none⟩ = some (.slice pA A.length cA) ∧ W'.cell? ⟨w.heap.size, 2, none⟩ = some (.slice pB B.length cB)) W0.drew := ⟨d3, d4⟩
  clear hA hB hR hlA hlB hb0 hz0 hc0 hc1 hW0 d3 d4
  go_enter Tryd.func28, Tryd.ntmps28
  go_upto_region 1 with fail
  rw [HWW.out]
  have hFa := fT
  refine rgN (fun W' : World => W'.cell? ⟨w.heap.size, 1, none⟩ = some (.slice pA A.length cA) ∧ W'.cell? ⟨w.heap.size, 2, none⟩ = some (.slice pB B.length cB)) 7 (by kernel_rfl) ?_
  simp only [List.size_toArray, List.length_cons, List.length_nil, Nat.reduceAdd]
  iterate 2 (refine wpHJ_nx (v := ?_) 10 rfl rfl (by kernel_rfl) nE hS ?_ ?_; rotate_left; (focus refine Or.inl ⟨by rfl, ?_⟩; rintro w' ⟨s0, s1⟩; (try go_simp); try rfl); simp only [Act.put, actP, actQ])
  iterate 2 (refine wpHJ_nx (v := ?_) 11 rfl rfl (by kernel_rfl) nE hS ?_ ?_; rotate_left; (focus refine Or.inl ⟨by rfl, ?_⟩; rintro w' ⟨s0, s1⟩; (try go_simp); try rfl); simp only [Act.put, actP, actQ])
  clear hS
  have HBd := hid (show Below W0.heap.size W0 W0.drew from ⟨rfl, rfl, rfl, Nat.le_refl _, fun _ _ => rfl⟩)
  generalize W0.drew = wd at *
  refine wpHJ_only 2 (by kernel_rfl) rfl (fun K hK => ?_)
  go_simp
  (with_reducible refine (callsIn_wide.2 (HCA.out wd HBd.out)).mono ?_)
  rintro e w2 ⟨hb2, p1, c1, rfl, hn1⟩
  have HB2 := hid (HBd.out.trans (hb2.mono HBd.out.size))
  have HN1 := hid hn1
  have HB2' := hid hb2
  clear hb2 hn1
  refine hK _ _ (.inr (.inr (HS.out w2 HB2.out))) ?_
  clear hK K
  (refine wpHJ_nx (v := ?_) 11 rfl rfl (by kernel_rfl) nE (HS.out w2 HB2.out) ?_ ?_; rotate_left; (focus refine Or.inl ⟨by rfl, ?_⟩; rintro w' ⟨s0, s1⟩; (try go_simp); try rfl); simp only [Act.put, actP, actQ])
  refine wpHJ_only 5 (by kernel_rfl) rfl (fun K hK => ?_)
  go_simp
  (with_reducible refine (callsIn_wide.2 (HCB.out w2 HB2.out)).mono ?_)
  rintro e w3 ⟨hb3, p2, c2, rfl, hn2⟩
  have HB3 := hid (HB2.out.trans (hb3.mono HB2.out.size))
  have HN2 := hid hn2
  have HB3' := hid hb3
  clear hb3 hn2
  have hC3 := (HB3.out.block w.heap.size HLT.out.1).trans HC0.out
  have hZ3 := (HB3.out.block (w.heap.size + 1) HLT.out.2).trans HZ0.out
  have HC3 := hid hC3; have HZ3 := hid hZ3
  have f3 : w3.frozen? ⟨w.heap.size, 1, none⟩ = false := frozen_of_row w3 _ 1 _ _ hC3
  have f4 : w3.frozen? ⟨w.heap.size, 2, none⟩ = false := frozen_of_row w3 _ 2 _ _ hC3
  have c3 : w3.cell? ⟨w.heap.size, 1, none⟩ = some (.slice pA A.length cA) := by rw [cell_of_row w3 _ 1 _ _ _ hC3]; rfl
  have c4 : w3.cell? ⟨w.heap.size, 2, none⟩ = some (.slice pB B.length cB) := by rw [cell_of_row w3 _ 2 _ _ _ hC3]; rfl
  clear hC3 hZ3
  refine hK _ _ (.inr (.inr (HS.out w3 HB3.out))) ?_
  clear hK K
  refine wpHJ_only 7 (by kernel_rfl) rfl (fun K hK => ?_)
  go_simp
  refine hK _ _ (.inl rfl) ?_
  clear hK K
  (refine wpHJ_np (v := ?_) 10 rfl rfl (by kernel_rfl) nE (.inl rfl) ?_ ?_; rotate_left; (focus refine Or.inl ⟨by rfl, ?_⟩; rintro w' _; (try go_simp); try rfl); simp only [Act.put, actP, actQ])
  refine wpHJ_only 9 (by kernel_rfl) rfl (fun K hK => ?_)
  go_simp
  refine hK _ _ (.inr (.inl rfl)) ?_
  clear hK K
  refine wpHJ_done (by kernel_rfl) ?_ _
  simp only [onlyN, Exit.then]
  clear hFa
  have hC4 := heap_set_cell (i := 2) (heap_set_cell (i := 1) HC3.out (.slice p1 A.length c1)) (.slice p2 B.length c2)
  have hZ4 : ((w3.setCell ⟨w.heap.size, 1, none⟩ (.slice p1 A.length c1)).setCell ⟨w.heap.size, 2, none⟩ (.slice p2 B.length c2)).heap[w.heap.size + 1]? = some (.cells #[.int .i64 0, .slice none 0 0, .slice none 0 0, .bool false] 31 (0, 0)) := (Below.heap_setCell _ _ _ _ (by show w.heap.size + 1 ≠ w.heap.size; omega)).trans ((Below.heap_setCell _ _ _ _ (by show w.heap.size + 1 ≠ w.heap.size; omega)).trans HZ3.out)
  have hk4 : ∀ j, j ≠ w.heap.size → ((w3.setCell ⟨w.heap.size, 1, none⟩ (.slice p1 A.length c1)).setCell ⟨w.heap.size, 2, none⟩ (.slice p2 B.length c2)).heap[j]? = w3.heap[j]? := fun j hj => (Below.heap_setCell _ _ _ _ hj).trans (Below.heap_setCell _ _ _ _ hj)
  have hb4 : Below w.heap.size w ((w3.setCell ⟨w.heap.size, 1, none⟩ (.slice p1 A.length c1)).setCell ⟨w.heap.size, 2, none⟩ (.slice p2 B.length c2)) := ((HB0.out.trans (HB3.out.mono (by rw [HZ.out]; omega))).setCell (Nat.le_refl _) _).setCell (Nat.le_refl _) _
  have hs4 : ((w3.setCell ⟨w.heap.size, 1, none⟩ (.slice p1 A.length c1)).setCell ⟨w.heap.size, 2, none⟩ (.slice p2 B.length c2)).heap.size = w3.heap.size := by rw [World.size_setCell, World.size_setCell]
  clear f3 f4 c3 c4
  generalize (w3.setCell ⟨w.heap.size, 1, none⟩ (.slice p1 A.length c1)).setCell ⟨w.heap.size, 2, none⟩ (.slice p2 B.length c2) = w4 at *
  have x0 : w4.cell? ⟨w.heap.size, 0, none⟩ = some (.int .i64 lv) := by rw [cell_of_row w4 _ 0 _ _ _ hC4]; rfl
  have y0 : w4.frozen? ⟨w.heap.size + 1, 0, none⟩ = false := frozen_of_row w4 _ 0 _ _ hZ4
  have z0 : w4.cell? ⟨w.heap.size + 1, 0, none⟩ = some (.int .i64 0) := by rw [cell_of_row w4 _ 0 _ _ _ hZ4]; rfl
  have x1 : w4.cell? ⟨w.heap.size, 1, none⟩ = some (.slice p1 A.length c1) := by rw [cell_of_row w4 _ 1 _ _ _ hC4]; rfl
  have y1 : w4.frozen? ⟨w.heap.size + 1, 1, none⟩ = false := frozen_of_row w4 _ 1 _ _ hZ4
  have z1 : w4.cell? ⟨w.heap.size + 1, 1, none⟩ = some (.slice none 0 0) := by rw [cell_of_row w4 _ 1 _ _ _ hZ4]; rfl
  have x2 : w4.cell? ⟨w.heap.size, 2, none⟩ = some (.slice p2 B.length c2) := by rw [cell_of_row w4 _ 2 _ _ _ hC4]; rfl
  have y2 : w4.frozen? ⟨w.heap.size + 1, 2, none⟩ = false := frozen_of_row w4 _ 2 _ _ hZ4
  have z2 : w4.cell? ⟨w.heap.size + 1, 2, none⟩ = some (.slice none 0 0) := by rw [cell_of_row w4 _ 2 _ _ _ hZ4]; rfl
  have x3 : w4.cell? ⟨w.heap.size, 3, none⟩ = some (.bool imp) := by rw [cell_of_row w4 _ 3 _ _ _ hC4]; rfl
  have y3 : w4.frozen? ⟨w.heap.size + 1, 3, none⟩ = false := frozen_of_row w4 _ 3 _ _ hZ4
  have z3 : w4.cell? ⟨w.heap.size + 1, 3, none⟩ = some (.bool false) := by rw [cell_of_row w4 _ 3 _ _ _ hZ4]; rfl
  have HC4 := hid hC4; have HZ4 := hid hZ4; have HK4 := hid hk4; have HB4 := hid hb4; have HS4 := hid hs4
  clear hC4 hZ4 hk4 hb4 hs4
  go_wp2_with fail
  obtain ⟨g5, k5, s5, b5⟩ := set4 HZ4.out (.int .i64 lv) (.slice p1 A.length c1) (.slice p2 B.length c2) (.bool imp)
  have hb5 := b5 HB4.out (by omega)
  generalize (((w4.setCell ⟨w.heap.size + 1, 0, none⟩ (.int .i64 lv)).setCell ⟨w.heap.size + 1, 1, none⟩ (.slice p1 A.length c1)).setCell ⟨w.heap.size + 1, 2, none⟩ (.slice p2 B.length c2)).setCell ⟨w.heap.size + 1, 3, none⟩ (.bool imp) = w5 at *
  have q0 : w5.cell? ⟨w.heap.size + 1, 0, none⟩ = some (.int .i64 lv) := by rw [cell_of_row w5 _ 0 _ _ _ g5]; rfl
  have q1 : w5.cell? ⟨w.heap.size + 1, 1, none⟩ = some (.slice p1 A.length c1) := by rw [cell_of_row w5 _ 1 _ _ _ g5]; rfl
  have q2 : w5.cell? ⟨w.heap.size + 1, 2, none⟩ = some (.slice p2 B.length c2) := by rw [cell_of_row w5 _ 2 _ _ _ g5]; rfl
  have q3 : w5.cell? ⟨w.heap.size + 1, 3, none⟩ = some (.bool imp) := by rw [cell_of_row w5 _ 3 _ _ _ g5]; rfl
  refine bodyPost_ret (v := .agg #[.int .i64 lv, .slice p1 A.length c1, .slice p2 B.length c2, .bool imp]) (by simp [results, Tryd.results28, go_sem, q0, q1, q2, q3]) rfl ⟨hb5, p1, c1, p2, c2, rfl, ?_, ?_⟩
  · have hd := HBd.out.size
    have h2 := HB2'.out.size
    have h3 := HB3'.out.size
    have hz := HZ.out
    have h4 := HS4.out
    exact HN1.out.keep fun i hi => ⟨⟨by omega, by omega⟩, (k5 i (by omega)).trans ((HK4.out i (by omega)).trans (HB3'.out.block i hi.2))⟩
  · have hd := HBd.out.size
    have h2 := HB2'.out.size
    have h3 := HB3'.out.size
    have hz := HZ.out
    have h4 := HS4.out
    exact HN2.out.keep fun i hi => ⟨⟨by omega, by omega⟩, (k5 i (by omega)).trans (HK4.out i (by omega))⟩

end Go.Proofs.YtehjfmbnebeioaaDoor
