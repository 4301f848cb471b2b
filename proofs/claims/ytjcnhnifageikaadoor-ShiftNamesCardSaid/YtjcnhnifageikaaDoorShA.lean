/-
  word.Apply at shifts of words of three bits; what Shift refuses.
-/
import Derived.Test.YtjcnhnifageikaaDoorShL2
import Derived.IntWalk
namespace Go.Proofs.YtjcnhnifageikaaDoor
set_option linter.unusedSimpArgs false
set_option linter.unusedVariables false
open Go.RowKit Go.Shelf
attribute [local go_sem] Oper.semAt_some

set_option maxRecDepth 100000 in
set_option maxHeartbeats 400000 in
theorem wcheck3 (w : World) : Calls Tryd.prog 42 #[.int .i64 3] w fun e w' => e = .returned (.int .i64 0) ∧ w = w' := by
  go_enter Tryd.func42, Tryd.ntmps42
  go_wp2
  go_ret
  exact ⟨rfl, rfl⟩

set_option maxRecDepth 100000 in
set_option maxHeartbeats 400000 in
theorem wmask3 (w : World) : Calls Tryd.prog 44 #[.int .i64 3] w fun e w' => e = .returned (.int .u64 7) ∧ w = w' := by
  go_enter Tryd.func44, Tryd.ntmps44
  go_wp2
  go_ret
  exact ⟨rfl, rfl⟩

theorem heap_set_cellS {W : World} {g i : Nat} {t : TypeId} {cs : Array Value} (h : W.heap[g]? = some (.cells cs t (0, 0))) (u : Value) : (W.setCell ⟨g, i, none⟩ u).heap[g]? = some (.cells (cs.setIfInBounds i u) t (0, 0)) := heap_setCell_same W g i cs t u h
theorem set22 {w : World} {g : Nat} {t : TypeId} {z0 z1 z2 z3 z4 z5 z6 z7 z8 z9 z10 z11 z12 z13 z14 z15 z16 z17 z18 z19 z20 z21 : Value} (h : w.heap[g]? = some (.cells #[z0, z1, z2, z3, z4, z5, z6, z7, z8, z9, z10, z11, z12, z13, z14, z15, z16, z17, z18, z19, z20, z21] t (0, 0))) (a0 a1 a2 a3 a4 a5 a6 a7 a8 a9 a10 a11 a12 a13 a14 a15 a16 a17 a18 a19 a20 a21 : Value) :
    ((World.setCell (World.setCell (World.setCell (World.setCell (World.setCell (World.setCell (World.setCell (World.setCell (World.setCell (World.setCell (World.setCell (World.setCell (World.setCell (World.setCell (World.setCell (World.setCell (World.setCell (World.setCell (World.setCell (World.setCell (World.setCell (World.setCell w ⟨g, 0, none⟩ a0) ⟨g, 1, none⟩ a1) ⟨g, 2, none⟩ a2) ⟨g, 3, none⟩ a3) ⟨g, 4, none⟩ a4) ⟨g, 5, none⟩ a5) ⟨g, 6, none⟩ a6) ⟨g, 7, none⟩ a7) ⟨g, 8, none⟩ a8) ⟨g, 9, none⟩ a9) ⟨g, 10, none⟩ a10) ⟨g, 11, none⟩ a11) ⟨g, 12, none⟩ a12) ⟨g, 13, none⟩ a13) ⟨g, 14, none⟩ a14) ⟨g, 15, none⟩ a15) ⟨g, 16, none⟩ a16) ⟨g, 17, none⟩ a17) ⟨g, 18, none⟩ a18) ⟨g, 19, none⟩ a19) ⟨g, 20, none⟩ a20) ⟨g, 21, none⟩ a21)).heap[g]? = some (.cells #[a0, a1, a2, a3, a4, a5, a6, a7, a8, a9, a10, a11, a12, a13, a14, a15, a16, a17, a18, a19, a20, a21] t (0, 0)) ∧ ∀ {B : Nat} {a : World}, Below B a w → B ≤ g → Below B a ((World.setCell (World.setCell (World.setCell (World.setCell (World.setCell (World.setCell (World.setCell (World.setCell (World.setCell (World.setCell (World.setCell (World.setCell (World.setCell (World.setCell (World.setCell (World.setCell (World.setCell (World.setCell (World.setCell (World.setCell (World.setCell (World.setCell w ⟨g, 0, none⟩ a0) ⟨g, 1, none⟩ a1) ⟨g, 2, none⟩ a2) ⟨g, 3, none⟩ a3) ⟨g, 4, none⟩ a4) ⟨g, 5, none⟩ a5) ⟨g, 6, none⟩ a6) ⟨g, 7, none⟩ a7) ⟨g, 8, none⟩ a8) ⟨g, 9, none⟩ a9) ⟨g, 10, none⟩ a10) ⟨g, 11, none⟩ a11) ⟨g, 12, none⟩ a12) ⟨g, 13, none⟩ a13) ⟨g, 14, none⟩ a14) ⟨g, 15, none⟩ a15) ⟨g, 16, none⟩ a16) ⟨g, 17, none⟩ a17) ⟨g, 18, none⟩ a18) ⟨g, 19, none⟩ a19) ⟨g, 20, none⟩ a20) ⟨g, 21, none⟩ a21)) := by
  refine ⟨?_, fun hb hB => ?_⟩
  · have := heap_set_cellS (i := 21) (heap_set_cellS (i := 20) (heap_set_cellS (i := 19) (heap_set_cellS (i := 18) (heap_set_cellS (i := 17) (heap_set_cellS (i := 16) (heap_set_cellS (i := 15) (heap_set_cellS (i := 14) (heap_set_cellS (i := 13) (heap_set_cellS (i := 12) (heap_set_cellS (i := 11) (heap_set_cellS (i := 10) (heap_set_cellS (i := 9) (heap_set_cellS (i := 8) (heap_set_cellS (i := 7) (heap_set_cellS (i := 6) (heap_set_cellS (i := 5) (heap_set_cellS (i := 4) (heap_set_cellS (i := 3) (heap_set_cellS (i := 2) (heap_set_cellS (i := 1) (heap_set_cellS (i := 0) (h) a0) a1) a2) a3) a4) a5) a6) a7) a8) a9) a10) a11) a12) a13) a14) a15) a16) a17) a18) a19) a20) a21
    simpa using this
  · exact ((((((((((((((((((((((hb).setCell (p := ⟨g, 0, none⟩) hB a0).setCell (p := ⟨g, 1, none⟩) hB a1).setCell (p := ⟨g, 2, none⟩) hB a2).setCell (p := ⟨g, 3, none⟩) hB a3).setCell (p := ⟨g, 4, none⟩) hB a4).setCell (p := ⟨g, 5, none⟩) hB a5).setCell (p := ⟨g, 6, none⟩) hB a6).setCell (p := ⟨g, 7, none⟩) hB a7).setCell (p := ⟨g, 8, none⟩) hB a8).setCell (p := ⟨g, 9, none⟩) hB a9).setCell (p := ⟨g, 10, none⟩) hB a10).setCell (p := ⟨g, 11, none⟩) hB a11).setCell (p := ⟨g, 12, none⟩) hB a12).setCell (p := ⟨g, 13, none⟩) hB a13).setCell (p := ⟨g, 14, none⟩) hB a14).setCell (p := ⟨g, 15, none⟩) hB a15).setCell (p := ⟨g, 16, none⟩) hB a16).setCell (p := ⟨g, 17, none⟩) hB a17).setCell (p := ⟨g, 18, none⟩) hB a18).setCell (p := ⟨g, 19, none⟩) hB a19).setCell (p := ⟨g, 20, none⟩) hB a20).setCell (p := ⟨g, 21, none⟩) hB a21
theorem setRow_below {a : World} (w : World) (B g : Nat) (cs : Array Value) (h : B ≤ g) (hb : Below B a w) : Below B a (w.setRow g cs) := by
  exact hb.trans ⟨rfl, rfl, rfl, by simp, fun k hk => setRow_other w g k cs (by omega)⟩
/-- The table of arities under way. -/
def arrK (k : Nat) : Array Value := (List.replicate k (Value.int .u8 2) ++ List.replicate (22 - k) (Value.int .u8 0)).toArray
theorem arrK_at (k : Nat) (h : k < 22) : (arrK k)[k]? = some (.int .u8 0) := by
  unfold arrK
  rw [List.getElem?_toArray, List.getElem?_append_right (by simp), List.length_replicate, Nat.sub_self, show 22 - k = (22 - (k + 1)) + 1 by omega, List.replicate_succ]
  rfl
theorem arrK_set (k : Nat) (h : k < 22) : (arrK k).setIfInBounds k (.int .u8 2) = arrK (k + 1) := by
  unfold arrK
  rw [List.setIfInBounds_toArray]
  congr 1
  rw [List.set_append_right _ _ (by simp), List.length_replicate, Nat.sub_self, show 22 - k = (22 - (k + 1)) + 1 by omega, List.replicate_succ, List.set_cons_zero, List.replicate_succ', List.append_assoc]
  rfl
def fin22 : Array Value := #[.int .u8 0, .int .u8 0, .int .u8 1, .int .u8 1, .int .u8 2, .int .u8 2, .int .u8 2, .int .u8 2, .int .u8 2, .int .u8 2, .int .u8 2, .int .u8 2, .int .u8 2, .int .u8 2, .int .u8 2, .int .u8 2, .int .u8 2, .int .u8 2, .int .u8 2, .int .u8 2, .int .u8 2, .int .u8 3]
set_option maxRecDepth 100000 in
set_option maxHeartbeats 2000000 in
theorem arities_any (w : World) : Calls Tryd.prog 53 #[] w fun e w' => e = .returned (.agg fin22) ∧ Below w.heap.size w w' := by
  obtain ⟨W0, hW0⟩ : ∃ W, (w.alloc (.cells #[.int .u8 0, .int .u8 0, .int .u8 0, .int .u8 0, .int .u8 0, .int .u8 0, .int .u8 0, .int .u8 0, .int .u8 0, .int .u8 0, .int .u8 0, .int .u8 0, .int .u8 0, .int .u8 0, .int .u8 0, .int .u8 0, .int .u8 0, .int .u8 0, .int .u8 0, .int .u8 0, .int .u8 0, .int .u8 0] 113)).alloc (.cells #[.int .u8 0, .int .u8 0, .int .u8 0, .int .u8 0, .int .u8 0, .int .u8 0, .int .u8 0, .int .u8 0, .int .u8 0, .int .u8 0, .int .u8 0, .int .u8 0, .int .u8 0, .int .u8 0, .int .u8 0, .int .u8 0, .int .u8 0, .int .u8 0, .int .u8 0, .int .u8 0, .int .u8 0, .int .u8 0] 113) = W := ⟨_, rfl⟩
  have hb0 : Below w.heap.size w W0 := by rw [← hW0]; exact ((Below.refl _ _).alloc (Nat.le_refl _) _).alloc (by rw [World.size_alloc]; omega) _
  have hc0 : W0.heap[w.heap.size]? = some (.cells #[.int .u8 0, .int .u8 0, .int .u8 0, .int .u8 0, .int .u8 0, .int .u8 0, .int .u8 0, .int .u8 0, .int .u8 0, .int .u8 0, .int .u8 0, .int .u8 0, .int .u8 0, .int .u8 0, .int .u8 0, .int .u8 0, .int .u8 0, .int .u8 0, .int .u8 0, .int .u8 0, .int .u8 0, .int .u8 0] 113 (0, 0)) := by rw [← hW0, heap_al, if_neg (by rw [World.size_alloc]; omega), heap_al, if_pos rfl]
  have hc1 : W0.heap[w.heap.size + 1]? = some (.cells (arrK 0) 113 (0, 0)) := by rw [← hW0, heap_al, if_pos (by rw [World.size_alloc])]; rfl
  have HB0 := hid hb0; have HC0 := hid hc0; have HC1 := hid hc1
  have HWW := hid hW0
  clear hb0 hc0 hc1 hW0
  go_enter Tryd.func53, Tryd.ntmps53
  go_wp2_with fail
  rw [HWW.out]
  go_loopw [3] (fun iv wr => ∃ k : Nat, k ≤ 22 ∧ iv = .int .i64 (k : Int) ∧ wr.heap[w.heap.size + 1]? = some (.cells (arrK k) 113 (0, 0)) ∧ wr.heap[w.heap.size]? = some (.cells #[.int .u8 0, .int .u8 0, .int .u8 0, .int .u8 0, .int .u8 0, .int .u8 0, .int .u8 0, .int .u8 0, .int .u8 0, .int .u8 0, .int .u8 0, .int .u8 0, .int .u8 0, .int .u8 0, .int .u8 0, .int .u8 0, .int .u8 0, .int .u8 0, .int .u8 0, .int .u8 0, .int .u8 0, .int .u8 0] 113 (0, 0)) ∧ Below w.heap.size w wr) (fun iv _ => 22 - (intOf iv).toNat)
  case atStart => exact ⟨0, by omega, rfl, HC1.out, HC0.out, HB0.out⟩
  case round =>
    obtain ⟨k, hk, rfl, h1, h0, hb⟩ := hrel
    obtain ⟨wo, rfl⟩ : ∃ wo : World, wo = wr := ⟨_, rfl⟩
    have H1 := hid h1; have H0 := hid h0; have HB := hid hb
    by_cases hlt : k < 22
    · have d22 : decide ((k : Int) < 22) = true := by simp; omega
      have e1 : wo.cell? ⟨w.heap.size + 1, k, none⟩ = some (.int .u8 0) := by rw [cell_of_row wo _ k _ _ _ h1]; exact arrK_at k hlt
      have f1 : wo.frozen? ⟨w.heap.size + 1, k, none⟩ = false := frozen_of_row wo _ k _ _ h1
      have HST := hid (arrK_set k hlt)
      have HLT := hid hlt
      clear h1 h0 hb
      go_wp2
      go_roundw
      case rel => exact ⟨k + 1, by have := HLT.out; omega, by go_num, by rw [← HST.out]; exact heap_set_cellS H1.out _, (Below.heap_setCell _ _ _ _ (by show w.heap.size ≠ w.heap.size + 1; omega)).trans H0.out, HB.out.setCell (by show w.heap.size ≤ w.heap.size + 1; omega) _⟩
      case measure => (have := HLT.out; simp [intOf]; omega)
    · obtain rfl : k = 22 := by omega
      have h1' : wo.heap[w.heap.size + 1]? = some (.cells #[.int .u8 2, .int .u8 2, .int .u8 2, .int .u8 2, .int .u8 2, .int .u8 2, .int .u8 2, .int .u8 2, .int .u8 2, .int .u8 2, .int .u8 2, .int .u8 2, .int .u8 2, .int .u8 2, .int .u8 2, .int .u8 2, .int .u8 2, .int .u8 2, .int .u8 2, .int .u8 2, .int .u8 2, .int .u8 2] 113 (0, 0)) := h1
      have H1 := hid h1'
      have d22 : decide ((((22 : Nat) : Int)) < 22) = false := by decide
      have y0 : wo.cell? ⟨w.heap.size + 1, 0, none⟩ = some (.int .u8 2) := (by rw [cell_of_row wo _ 0 _ _ _ h1']; rfl)
      have e0 : wo.frozen? ⟨w.heap.size + 1, 0, none⟩ = false := frozen_of_row wo _ 0 _ _ h1'
      have y1 : wo.cell? ⟨w.heap.size + 1, 1, none⟩ = some (.int .u8 2) := (by rw [cell_of_row wo _ 1 _ _ _ h1']; rfl)
      have e1 : wo.frozen? ⟨w.heap.size + 1, 1, none⟩ = false := frozen_of_row wo _ 1 _ _ h1'
      have y2 : wo.cell? ⟨w.heap.size + 1, 2, none⟩ = some (.int .u8 2) := (by rw [cell_of_row wo _ 2 _ _ _ h1']; rfl)
      have e2 : wo.frozen? ⟨w.heap.size + 1, 2, none⟩ = false := frozen_of_row wo _ 2 _ _ h1'
      have y3 : wo.cell? ⟨w.heap.size + 1, 3, none⟩ = some (.int .u8 2) := (by rw [cell_of_row wo _ 3 _ _ _ h1']; rfl)
      have e3 : wo.frozen? ⟨w.heap.size + 1, 3, none⟩ = false := frozen_of_row wo _ 3 _ _ h1'
      have y21 : wo.cell? ⟨w.heap.size + 1, 21, none⟩ = some (.int .u8 2) := (by rw [cell_of_row wo _ 21 _ _ _ h1']; rfl)
      have e21 : wo.frozen? ⟨w.heap.size + 1, 21, none⟩ = false := frozen_of_row wo _ 21 _ _ h1'
      clear h1 h0 hb h1'
      go_wp2_with (obtain ⟨w7, hw7⟩ : ∃ W, (((((wo).setCell ⟨w.heap.size + 1, 0, none⟩ (.int .u8 0)).setCell ⟨w.heap.size + 1, 1, none⟩ (.int .u8 0)).setCell ⟨w.heap.size + 1, 2, none⟩ (.int .u8 1)).setCell ⟨w.heap.size + 1, 3, none⟩ (.int .u8 1)).setCell ⟨w.heap.size + 1, 21, none⟩ (.int .u8 3) = W := ⟨_, rfl⟩; rw [hw7]; have hg7 : w7.heap[w.heap.size + 1]? = some (.cells fin22 113 (0, 0)) := (by rw [← hw7]; exact heap_set_cellS (heap_set_cellS (heap_set_cellS (heap_set_cellS (heap_set_cellS H1.out _) _) _) _) _); have hz7 : w7.heap[w.heap.size]? = some (.cells #[.int .u8 0, .int .u8 0, .int .u8 0, .int .u8 0, .int .u8 0, .int .u8 0, .int .u8 0, .int .u8 0, .int .u8 0, .int .u8 0, .int .u8 0, .int .u8 0, .int .u8 0, .int .u8 0, .int .u8 0, .int .u8 0, .int .u8 0, .int .u8 0, .int .u8 0, .int .u8 0, .int .u8 0, .int .u8 0] 113 (0, 0)) := (by rw [← hw7]; exact (Below.heap_setCell _ _ _ _ (by show w.heap.size ≠ w.heap.size + 1; omega)).trans ((Below.heap_setCell _ _ _ _ (by show w.heap.size ≠ w.heap.size + 1; omega)).trans ((Below.heap_setCell _ _ _ _ (by show w.heap.size ≠ w.heap.size + 1; omega)).trans ((Below.heap_setCell _ _ _ _ (by show w.heap.size ≠ w.heap.size + 1; omega)).trans ((Below.heap_setCell _ _ _ _ (by show w.heap.size ≠ w.heap.size + 1; omega)).trans H0.out))))); have hb7 : Below w.heap.size w w7 := (by rw [← hw7]; exact ((((HB.out.setCell (by show w.heap.size ≤ w.heap.size + 1; omega) _).setCell (by show w.heap.size ≤ w.heap.size + 1; omega) _).setCell (by show w.heap.size ≤ w.heap.size + 1; omega) _).setCell (by show w.heap.size ≤ w.heap.size + 1; omega) _).setCell (by show w.heap.size ≤ w.heap.size + 1; omega) _); refine wpList_load_row rfl 113 (.tmp 1) rfl (w.heap.size + 1) rfl 113 fin22 (0, 0) (.array 22 5) hg7 (by as_aux_lemma => kernel_rfl) rfl (by as_aux_lemma => kernel_rfl) ?_; refine wpList_store_row rfl 113 (.tmp 0) (.tmp 14) rfl w.heap.size fin22 rfl rfl 113 _ hz7 (by as_aux_lemma => kernel_rfl) (by as_aux_lemma => kernel_rfl) (by as_aux_lemma => kernel_rfl) ?_; have hg8 := setRow_heap w7 w.heap.size _ fin22 _ _ hz7; have hb8 := setRow_below w7 w.heap.size w.heap.size fin22 (Nat.le_refl _) hb7; generalize World.setRow w7 w.heap.size fin22 = w8 at hg8 hb8 ⊢; have HG8 := hid hg8; have HB8 := hid hb8; clear y0 e0 y1 e1 y2 e2 y3 e3 y21 e21 hw7 hg7 hz7 hb7 hg8 hb8)
      refine bodyPost_ret (results_cell_row (g := w.heap.size) (t := 113) (cs := fin22) (fr := (0, 0)) (d := .array 22 5) rfl _ _ rfl HG8.out (by as_aux_lemma => kernel_rfl) rfl (by as_aux_lemma => kernel_rfl)) rfl ⟨rfl, HB8.out⟩

end Go.Proofs.YtjcnhnifageikaaDoor
