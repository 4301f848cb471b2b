/-
  The walk of law 39's made, of any verdict.
-/
import Derived.Test.YtehjfmbnebeioaaDoorRpH
import Derived.Test.YtehjfmbnebeioaaDoorRpQ
namespace Go.Proofs.YtehjfmbnebeioaaDoor
set_option linter.unusedSimpArgs false
set_option linter.unusedVariables false
open Go.RowKit Go.Shelf
attribute [local go_sem] Oper.semAt_some

set_option maxRecDepth 100000 in
set_option maxHeartbeats 4000000 in
theorem made_k1 (k r : Nat) (lv : Int) (A B : List (List Nat)) (imp pol : Bool) (ln co er : Int) (pA pB : Option Addr) (cA cB : Nat) (m c : Nat) (R : Nat → Prop) (w : World) (hk : k % 4 = 1) (hk255 : k ≤ 255) (hr255 : r ≤ 255) (hm : 1 ≤ m ∧ m ≤ 1000) (hc : c ≤ 1000) (hlv : -9223372036854775808 ≤ lv ∧ lv ≤ 9223372036854775807) (her : -9223372036854775808 ≤ er ∧ er ≤ 9223372036854775807) (hA : NLL R w (.slice pA A.length cA) A) (hB : NLL R w (.slice pB B.length cB) B) (hR : ∀ i, R i → i < w.heap.size) (hlA : ∀ x ∈ A, x.length ≤ 17592186044415) (hlB : ∀ x ∈ B, x.length ≤ 17592186044415) :
    Calls Tryd.prog 14 #[.agg #[.int .u8 (k : Int), .int .u8 (r : Int), .int .i64 lv, .slice pA A.length cA, .slice pB B.length cB, .bool imp, .bool pol, .int .i64 ln, .int .i64 co, .int .i64 er], .int .i64 (m : Int), .int .i64 (c : Int)] w (MadePost ⟨k, r, lv, A, B, imp, pol, ln, co, er⟩ m c w) := by
  obtain ⟨W0, hW0⟩ : ∃ W, (w.alloc (.cells #[.int .u8 (k : Int), .int .u8 (r : Int), .int .i64 lv, .slice pA A.length cA, .slice pB B.length cB, .bool imp, .bool pol, .int .i64 ln, .int .i64 co, .int .i64 er] 35)).alloc (.cells #[.int .u8 0, .int .u8 0, .int .i64 0, .slice none 0 0, .slice none 0 0, .bool false, .bool false, .int .i64 0, .int .i64 0, .int .i64 0] 35) = W := ⟨_, rfl⟩
  have hb0 : Below w.heap.size w W0 := by rw [← hW0]; exact ((Below.refl _ _).alloc (Nat.le_refl _) _).alloc (by rw [World.size_alloc]; omega) _
  have hz0 : W0.heap.size = w.heap.size + 2 := by rw [← hW0, World.size_alloc, World.size_alloc]
  have hc0 : W0.heap[w.heap.size]? = some (.cells #[.int .u8 (k : Int), .int .u8 (r : Int), .int .i64 lv, .slice pA A.length cA, .slice pB B.length cB, .bool imp, .bool pol, .int .i64 ln, .int .i64 co, .int .i64 er] 35 (0, 0)) := by rw [← hW0, heap_al, if_neg (by rw [World.size_alloc]; omega), heap_al, if_pos rfl]
  have hc1 : W0.heap[w.heap.size + 1]? = some (.cells #[.int .u8 0, .int .u8 0, .int .i64 0, .slice none 0 0, .slice none 0 0, .bool false, .bool false, .int .i64 0, .int .i64 0, .int .i64 0] 35 (0, 0)) := by rw [← hW0, heap_al, if_pos (by rw [World.size_alloc])]
  have HFEW := hid (few_any k r lv A B imp pol ln co er pA pB cA cB R W0 (hA.keep fun i hi => ⟨hi, hb0.block i (hR i hi)⟩) (hB.keep fun i hi => ⟨hi, hb0.block i (hR i hi)⟩) (fun i hi => by have := hR i hi; omega) hlA hlB)
  have HB0 := hid hb0; have HZ := hid hz0; have HC0 := hid hc0; have HZ0 := hid hc1; have HWW := hid hW0
  obtain ⟨q, hqm, hq, HKM0⟩ := kmod_nat lv m w hlv (by omega) (by omega)
  have HKM := hid HKM0
  have hq2 : q ≤ 1000 := by omega
  have hkq : (k : Int) % 4 = 1 := by omega
  have HMV := hid (show madeV ⟨k, r, lv, A, B, imp, pol, ln, co, er⟩ m c = ⟨1, 0, (q : Int), (List.range c).map (atL (cutL A)), (List.range c).map (atL (cutL B)), imp, false, 0, 0, 0⟩ from by unfold madeV; rw [if_neg (by dsimp only; omega), if_neg (by dsimp only; omega), if_pos hk]; dsimp only; rw [hq])
  clear hk hq HKM0
  clear hA hB hR hlA hlB hb0 hz0 hc0 hc1 hW0
  unfold FewPost at HFEW
  unfold MadePost
  rw [HMV.out]
  generalize cutL A = LA at *
  generalize cutL B = LB at *
  go_enter Tryd.func14, Tryd.ntmps14
  go_wp2_with fail
  rw [HWW.out]
  refine HFEW.out.mono ?_
  rintro e w2 ⟨hb2, p1, c1, p2, c2, rfl, hn1, hn2⟩
  have hC2 := (hb2.block w.heap.size (by rw [HZ.out]; omega)).trans HC0.out
  have hZ2 := (hb2.block (w.heap.size + 1) (by rw [HZ.out]; omega)).trans HZ0.out
  have x0 : w2.cell? ⟨w.heap.size, 0, none⟩ = some (.int .u8 (k : Int)) := (by rw [cell_of_row w2 _ 0 _ _ _ hC2]; rfl)
  have f0 : w2.frozen? ⟨w.heap.size, 0, none⟩ = false := frozen_of_row w2 _ 0 _ _ hC2
  have x1 : w2.cell? ⟨w.heap.size, 1, none⟩ = some (.int .u8 (r : Int)) := (by rw [cell_of_row w2 _ 1 _ _ _ hC2]; rfl)
  have f1 : w2.frozen? ⟨w.heap.size, 1, none⟩ = false := frozen_of_row w2 _ 1 _ _ hC2
  have x2 : w2.cell? ⟨w.heap.size, 2, none⟩ = some (.int .i64 lv) := (by rw [cell_of_row w2 _ 2 _ _ _ hC2]; rfl)
  have f2 : w2.frozen? ⟨w.heap.size, 2, none⟩ = false := frozen_of_row w2 _ 2 _ _ hC2
  have x3 : w2.cell? ⟨w.heap.size, 3, none⟩ = some (.slice pA A.length cA) := (by rw [cell_of_row w2 _ 3 _ _ _ hC2]; rfl)
  have f3 : w2.frozen? ⟨w.heap.size, 3, none⟩ = false := frozen_of_row w2 _ 3 _ _ hC2
  have x4 : w2.cell? ⟨w.heap.size, 4, none⟩ = some (.slice pB B.length cB) := (by rw [cell_of_row w2 _ 4 _ _ _ hC2]; rfl)
  have f4 : w2.frozen? ⟨w.heap.size, 4, none⟩ = false := frozen_of_row w2 _ 4 _ _ hC2
  have x5 : w2.cell? ⟨w.heap.size, 5, none⟩ = some (.bool imp) := (by rw [cell_of_row w2 _ 5 _ _ _ hC2]; rfl)
  have f5 : w2.frozen? ⟨w.heap.size, 5, none⟩ = false := frozen_of_row w2 _ 5 _ _ hC2
  have x6 : w2.cell? ⟨w.heap.size, 6, none⟩ = some (.bool pol) := (by rw [cell_of_row w2 _ 6 _ _ _ hC2]; rfl)
  have f6 : w2.frozen? ⟨w.heap.size, 6, none⟩ = false := frozen_of_row w2 _ 6 _ _ hC2
  have x7 : w2.cell? ⟨w.heap.size, 7, none⟩ = some (.int .i64 ln) := (by rw [cell_of_row w2 _ 7 _ _ _ hC2]; rfl)
  have f7 : w2.frozen? ⟨w.heap.size, 7, none⟩ = false := frozen_of_row w2 _ 7 _ _ hC2
  have x8 : w2.cell? ⟨w.heap.size, 8, none⟩ = some (.int .i64 co) := (by rw [cell_of_row w2 _ 8 _ _ _ hC2]; rfl)
  have f8 : w2.frozen? ⟨w.heap.size, 8, none⟩ = false := frozen_of_row w2 _ 8 _ _ hC2
  have x9 : w2.cell? ⟨w.heap.size, 9, none⟩ = some (.int .i64 er) := (by rw [cell_of_row w2 _ 9 _ _ _ hC2]; rfl)
  have f9 : w2.frozen? ⟨w.heap.size, 9, none⟩ = false := frozen_of_row w2 _ 9 _ _ hC2
  have HC2 := hid hC2; have HZ2 := hid hZ2
  have HB2 := hid (HB0.out.trans (hb2.mono HB0.out.size)); have HN1 := hid hn1; have HN2 := hid hn2; have HBF := hid hb2
  clear hC2 hZ2 hb2 hn1 hn2
  go_wp2_with (first | (obtain ⟨w5, hw5⟩ : ∃ W, ((((((((((w2).setCell ⟨w.heap.size, 0, none⟩ (.int .u8 (k : Int))).setCell ⟨w.heap.size, 1, none⟩ (.int .u8 (r : Int))).setCell ⟨w.heap.size, 2, none⟩ (.int .i64 lv)).setCell ⟨w.heap.size, 3, none⟩ (.slice p1 LA.length c1)).setCell ⟨w.heap.size, 4, none⟩ (.slice p2 LB.length c2)).setCell ⟨w.heap.size, 5, none⟩ (.bool imp)).setCell ⟨w.heap.size, 6, none⟩ (.bool pol)).setCell ⟨w.heap.size, 7, none⟩ (.int .i64 ln)).setCell ⟨w.heap.size, 8, none⟩ (.int .i64 co)).setCell ⟨w.heap.size, 9, none⟩ (.int .i64 er) = W := ⟨_, rfl⟩; rw [hw5]; obtain ⟨hg5, hk5, hs5, hb5⟩ := set10 HC2.out (.int .u8 (k : Int)) (.int .u8 (r : Int)) (.int .i64 lv) (.slice p1 LA.length c1) (.slice p2 LB.length c2) (.bool imp) (.bool pol) (.int .i64 ln) (.int .i64 co) (.int .i64 er); have hb5 := hb5 HB2.out (Nat.le_refl _); rw [hw5] at hg5 hk5 hs5 hb5; clear x0 f0 x1 f1 x2 f2 x3 f3 x4 f4 x5 f5 x6 f6 x7 f7 x8 f8 x9 f9 hw5; have x0 : w5.cell? ⟨w.heap.size, 0, none⟩ = some (.int .u8 (k : Int)) := (by rw [cell_of_row w5 _ 0 _ _ _ hg5]; rfl); have x1 : w5.cell? ⟨w.heap.size, 1, none⟩ = some (.int .u8 (r : Int)) := (by rw [cell_of_row w5 _ 1 _ _ _ hg5]; rfl); have x2 : w5.cell? ⟨w.heap.size, 2, none⟩ = some (.int .i64 lv) := (by rw [cell_of_row w5 _ 2 _ _ _ hg5]; rfl); have x3 : w5.cell? ⟨w.heap.size, 3, none⟩ = some (.slice p1 LA.length c1) := (by rw [cell_of_row w5 _ 3 _ _ _ hg5]; rfl); have x4 : w5.cell? ⟨w.heap.size, 4, none⟩ = some (.slice p2 LB.length c2) := (by rw [cell_of_row w5 _ 4 _ _ _ hg5]; rfl); have x5 : w5.cell? ⟨w.heap.size, 5, none⟩ = some (.bool imp) := (by rw [cell_of_row w5 _ 5 _ _ _ hg5]; rfl); have x6 : w5.cell? ⟨w.heap.size, 6, none⟩ = some (.bool pol) := (by rw [cell_of_row w5 _ 6 _ _ _ hg5]; rfl); have x7 : w5.cell? ⟨w.heap.size, 7, none⟩ = some (.int .i64 ln) := (by rw [cell_of_row w5 _ 7 _ _ _ hg5]; rfl); have x8 : w5.cell? ⟨w.heap.size, 8, none⟩ = some (.int .i64 co) := (by rw [cell_of_row w5 _ 8 _ _ _ hg5]; rfl); have x9 : w5.cell? ⟨w.heap.size, 9, none⟩ = some (.int .i64 er) := (by rw [cell_of_row w5 _ 9 _ _ _ hg5]; rfl); have hz5 := (hk5 (w.heap.size + 1) (by omega)).trans HZ2.out; have z0 : w5.cell? ⟨w.heap.size + 1, 0, none⟩ = some (.int .u8 0) := (by rw [cell_of_row w5 _ 0 _ _ _ hz5]; rfl); have f0 : w5.frozen? ⟨w.heap.size + 1, 0, none⟩ = false := frozen_of_row w5 _ 0 _ _ hz5; have z1 : w5.cell? ⟨w.heap.size + 1, 1, none⟩ = some (.int .u8 0) := (by rw [cell_of_row w5 _ 1 _ _ _ hz5]; rfl); have f1 : w5.frozen? ⟨w.heap.size + 1, 1, none⟩ = false := frozen_of_row w5 _ 1 _ _ hz5; have z2 : w5.cell? ⟨w.heap.size + 1, 2, none⟩ = some (.int .i64 0) := (by rw [cell_of_row w5 _ 2 _ _ _ hz5]; rfl); have f2 : w5.frozen? ⟨w.heap.size + 1, 2, none⟩ = false := frozen_of_row w5 _ 2 _ _ hz5; have z3 : w5.cell? ⟨w.heap.size + 1, 3, none⟩ = some (.slice none 0 0) := (by rw [cell_of_row w5 _ 3 _ _ _ hz5]; rfl); have f3 : w5.frozen? ⟨w.heap.size + 1, 3, none⟩ = false := frozen_of_row w5 _ 3 _ _ hz5; have z4 : w5.cell? ⟨w.heap.size + 1, 4, none⟩ = some (.slice none 0 0) := (by rw [cell_of_row w5 _ 4 _ _ _ hz5]; rfl); have f4 : w5.frozen? ⟨w.heap.size + 1, 4, none⟩ = false := frozen_of_row w5 _ 4 _ _ hz5; have z5 : w5.cell? ⟨w.heap.size + 1, 5, none⟩ = some (.bool false) := (by rw [cell_of_row w5 _ 5 _ _ _ hz5]; rfl); have f5 : w5.frozen? ⟨w.heap.size + 1, 5, none⟩ = false := frozen_of_row w5 _ 5 _ _ hz5; have z6 : w5.cell? ⟨w.heap.size + 1, 6, none⟩ = some (.bool false) := (by rw [cell_of_row w5 _ 6 _ _ _ hz5]; rfl); have f6 : w5.frozen? ⟨w.heap.size + 1, 6, none⟩ = false := frozen_of_row w5 _ 6 _ _ hz5; have z7 : w5.cell? ⟨w.heap.size + 1, 7, none⟩ = some (.int .i64 0) := (by rw [cell_of_row w5 _ 7 _ _ _ hz5]; rfl); have f7 : w5.frozen? ⟨w.heap.size + 1, 7, none⟩ = false := frozen_of_row w5 _ 7 _ _ hz5; have z8 : w5.cell? ⟨w.heap.size + 1, 8, none⟩ = some (.int .i64 0) := (by rw [cell_of_row w5 _ 8 _ _ _ hz5]; rfl); have f8 : w5.frozen? ⟨w.heap.size + 1, 8, none⟩ = false := frozen_of_row w5 _ 8 _ _ hz5; have z9 : w5.cell? ⟨w.heap.size + 1, 9, none⟩ = some (.int .i64 0) := (by rw [cell_of_row w5 _ 9 _ _ _ hz5]; rfl); have f9 : w5.frozen? ⟨w.heap.size + 1, 9, none⟩ = false := frozen_of_row w5 _ 9 _ _ hz5; have HG5 := hid hg5; have HK5 := hid hk5; have HS5 := hid hs5; have HB5 := hid hb5; have HZ5 := hid hz5; clear hg5 hk5 hs5 hb5 hz5) | (obtain ⟨w6, hw6⟩ : ∃ W, w5.alloc (.cells #[.int .u8 1, .int .u8 0, .int .i64 0, .slice none 0 0, .slice none 0 0, .bool false, .bool false, .int .i64 0, .int .i64 0, .int .i64 0] 35) = W := ⟨_, rfl⟩; rw [hw6]; have hg6 : w6.heap[w5.heap.size]? = some (.cells #[.int .u8 1, .int .u8 0, .int .i64 0, .slice none 0 0, .slice none 0 0, .bool false, .bool false, .int .i64 0, .int .i64 0, .int .i64 0] 35 (0, 0)) := (by rw [← hw6, heap_al, if_pos rfl]); have hb6 : Below w5.heap.size w5 w6 := (by rw [← hw6]; exact (Below.refl _ _).alloc (Nat.le_refl _) _); have hs6 : w6.heap.size = w5.heap.size + 1 := (by rw [← hw6, World.size_alloc]); have h50 : w.heap.size < w5.heap.size := (by have := HBF.out.size; have := HS5.out; have := HZ.out; omega); have h51 : w.heap.size + 1 < w5.heap.size := (by have := HBF.out.size; have := HS5.out; have := HZ.out; omega); have hc6 := (hb6.block w.heap.size h50).trans HG5.out; have hz6 := (hb6.block (w.heap.size + 1) h51).trans HZ5.out; clear x0 z0 f0 x1 z1 f1 x2 z2 f2 x3 z3 f3 x4 z4 f4 x5 z5 f5 x6 z6 f6 x7 z7 f7 x8 z8 f8 x9 z9 f9 hw6; have x0 : w6.cell? ⟨w.heap.size, 0, none⟩ = some (.int .u8 (k : Int)) := (by rw [cell_of_row w6 _ 0 _ _ _ hc6]; rfl); have g0 : w6.frozen? ⟨w.heap.size, 0, none⟩ = false := frozen_of_row w6 _ 0 _ _ hc6; have x1 : w6.cell? ⟨w.heap.size, 1, none⟩ = some (.int .u8 (r : Int)) := (by rw [cell_of_row w6 _ 1 _ _ _ hc6]; rfl); have g1 : w6.frozen? ⟨w.heap.size, 1, none⟩ = false := frozen_of_row w6 _ 1 _ _ hc6; have x2 : w6.cell? ⟨w.heap.size, 2, none⟩ = some (.int .i64 lv) := (by rw [cell_of_row w6 _ 2 _ _ _ hc6]; rfl); have g2 : w6.frozen? ⟨w.heap.size, 2, none⟩ = false := frozen_of_row w6 _ 2 _ _ hc6; have x3 : w6.cell? ⟨w.heap.size, 3, none⟩ = some (.slice p1 LA.length c1) := (by rw [cell_of_row w6 _ 3 _ _ _ hc6]; rfl); have g3 : w6.frozen? ⟨w.heap.size, 3, none⟩ = false := frozen_of_row w6 _ 3 _ _ hc6; have x4 : w6.cell? ⟨w.heap.size, 4, none⟩ = some (.slice p2 LB.length c2) := (by rw [cell_of_row w6 _ 4 _ _ _ hc6]; rfl); have g4 : w6.frozen? ⟨w.heap.size, 4, none⟩ = false := frozen_of_row w6 _ 4 _ _ hc6; have x5 : w6.cell? ⟨w.heap.size, 5, none⟩ = some (.bool imp) := (by rw [cell_of_row w6 _ 5 _ _ _ hc6]; rfl); have g5 : w6.frozen? ⟨w.heap.size, 5, none⟩ = false := frozen_of_row w6 _ 5 _ _ hc6; have x6 : w6.cell? ⟨w.heap.size, 6, none⟩ = some (.bool pol) := (by rw [cell_of_row w6 _ 6 _ _ _ hc6]; rfl); have g6 : w6.frozen? ⟨w.heap.size, 6, none⟩ = false := frozen_of_row w6 _ 6 _ _ hc6; have x7 : w6.cell? ⟨w.heap.size, 7, none⟩ = some (.int .i64 ln) := (by rw [cell_of_row w6 _ 7 _ _ _ hc6]; rfl); have g7 : w6.frozen? ⟨w.heap.size, 7, none⟩ = false := frozen_of_row w6 _ 7 _ _ hc6; have x8 : w6.cell? ⟨w.heap.size, 8, none⟩ = some (.int .i64 co) := (by rw [cell_of_row w6 _ 8 _ _ _ hc6]; rfl); have g8 : w6.frozen? ⟨w.heap.size, 8, none⟩ = false := frozen_of_row w6 _ 8 _ _ hc6; have x9 : w6.cell? ⟨w.heap.size, 9, none⟩ = some (.int .i64 er) := (by rw [cell_of_row w6 _ 9 _ _ _ hc6]; rfl); have g9 : w6.frozen? ⟨w.heap.size, 9, none⟩ = false := frozen_of_row w6 _ 9 _ _ hc6; have z0 : w6.cell? ⟨w.heap.size + 1, 0, none⟩ = some (.int .u8 0) := (by rw [cell_of_row w6 _ 0 _ _ _ hz6]; rfl); have f0 : w6.frozen? ⟨w.heap.size + 1, 0, none⟩ = false := frozen_of_row w6 _ 0 _ _ hz6; have z1 : w6.cell? ⟨w.heap.size + 1, 1, none⟩ = some (.int .u8 0) := (by rw [cell_of_row w6 _ 1 _ _ _ hz6]; rfl); have f1 : w6.frozen? ⟨w.heap.size + 1, 1, none⟩ = false := frozen_of_row w6 _ 1 _ _ hz6; have z2 : w6.cell? ⟨w.heap.size + 1, 2, none⟩ = some (.int .i64 0) := (by rw [cell_of_row w6 _ 2 _ _ _ hz6]; rfl); have f2 : w6.frozen? ⟨w.heap.size + 1, 2, none⟩ = false := frozen_of_row w6 _ 2 _ _ hz6; have z3 : w6.cell? ⟨w.heap.size + 1, 3, none⟩ = some (.slice none 0 0) := (by rw [cell_of_row w6 _ 3 _ _ _ hz6]; rfl); have f3 : w6.frozen? ⟨w.heap.size + 1, 3, none⟩ = false := frozen_of_row w6 _ 3 _ _ hz6; have z4 : w6.cell? ⟨w.heap.size + 1, 4, none⟩ = some (.slice none 0 0) := (by rw [cell_of_row w6 _ 4 _ _ _ hz6]; rfl); have f4 : w6.frozen? ⟨w.heap.size + 1, 4, none⟩ = false := frozen_of_row w6 _ 4 _ _ hz6; have z5 : w6.cell? ⟨w.heap.size + 1, 5, none⟩ = some (.bool false) := (by rw [cell_of_row w6 _ 5 _ _ _ hz6]; rfl); have f5 : w6.frozen? ⟨w.heap.size + 1, 5, none⟩ = false := frozen_of_row w6 _ 5 _ _ hz6; have z6 : w6.cell? ⟨w.heap.size + 1, 6, none⟩ = some (.bool false) := (by rw [cell_of_row w6 _ 6 _ _ _ hz6]; rfl); have f6 : w6.frozen? ⟨w.heap.size + 1, 6, none⟩ = false := frozen_of_row w6 _ 6 _ _ hz6; have z7 : w6.cell? ⟨w.heap.size + 1, 7, none⟩ = some (.int .i64 0) := (by rw [cell_of_row w6 _ 7 _ _ _ hz6]; rfl); have f7 : w6.frozen? ⟨w.heap.size + 1, 7, none⟩ = false := frozen_of_row w6 _ 7 _ _ hz6; have z8 : w6.cell? ⟨w.heap.size + 1, 8, none⟩ = some (.int .i64 0) := (by rw [cell_of_row w6 _ 8 _ _ _ hz6]; rfl); have f8 : w6.frozen? ⟨w.heap.size + 1, 8, none⟩ = false := frozen_of_row w6 _ 8 _ _ hz6; have z9 : w6.cell? ⟨w.heap.size + 1, 9, none⟩ = some (.int .i64 0) := (by rw [cell_of_row w6 _ 9 _ _ _ hz6]; rfl); have f9 : w6.frozen? ⟨w.heap.size + 1, 9, none⟩ = false := frozen_of_row w6 _ 9 _ _ hz6; have y0 : w6.cell? ⟨w5.heap.size, 0, none⟩ = some (.int .u8 1) := (by rw [cell_of_row w6 _ 0 _ _ _ hg6]; rfl); have e0 : w6.frozen? ⟨w5.heap.size, 0, none⟩ = false := frozen_of_row w6 _ 0 _ _ hg6; have y1 : w6.cell? ⟨w5.heap.size, 1, none⟩ = some (.int .u8 0) := (by rw [cell_of_row w6 _ 1 _ _ _ hg6]; rfl); have e1 : w6.frozen? ⟨w5.heap.size, 1, none⟩ = false := frozen_of_row w6 _ 1 _ _ hg6; have y2 : w6.cell? ⟨w5.heap.size, 2, none⟩ = some (.int .i64 0) := (by rw [cell_of_row w6 _ 2 _ _ _ hg6]; rfl); have e2 : w6.frozen? ⟨w5.heap.size, 2, none⟩ = false := frozen_of_row w6 _ 2 _ _ hg6; have y3 : w6.cell? ⟨w5.heap.size, 3, none⟩ = some (.slice none 0 0) := (by rw [cell_of_row w6 _ 3 _ _ _ hg6]; rfl); have e3 : w6.frozen? ⟨w5.heap.size, 3, none⟩ = false := frozen_of_row w6 _ 3 _ _ hg6; have y4 : w6.cell? ⟨w5.heap.size, 4, none⟩ = some (.slice none 0 0) := (by rw [cell_of_row w6 _ 4 _ _ _ hg6]; rfl); have e4 : w6.frozen? ⟨w5.heap.size, 4, none⟩ = false := frozen_of_row w6 _ 4 _ _ hg6; have y5 : w6.cell? ⟨w5.heap.size, 5, none⟩ = some (.bool false) := (by rw [cell_of_row w6 _ 5 _ _ _ hg6]; rfl); have e5 : w6.frozen? ⟨w5.heap.size, 5, none⟩ = false := frozen_of_row w6 _ 5 _ _ hg6; have y6 : w6.cell? ⟨w5.heap.size, 6, none⟩ = some (.bool false) := (by rw [cell_of_row w6 _ 6 _ _ _ hg6]; rfl); have e6 : w6.frozen? ⟨w5.heap.size, 6, none⟩ = false := frozen_of_row w6 _ 6 _ _ hg6; have y7 : w6.cell? ⟨w5.heap.size, 7, none⟩ = some (.int .i64 0) := (by rw [cell_of_row w6 _ 7 _ _ _ hg6]; rfl); have e7 : w6.frozen? ⟨w5.heap.size, 7, none⟩ = false := frozen_of_row w6 _ 7 _ _ hg6; have y8 : w6.cell? ⟨w5.heap.size, 8, none⟩ = some (.int .i64 0) := (by rw [cell_of_row w6 _ 8 _ _ _ hg6]; rfl); have e8 : w6.frozen? ⟨w5.heap.size, 8, none⟩ = false := frozen_of_row w6 _ 8 _ _ hg6; have y9 : w6.cell? ⟨w5.heap.size, 9, none⟩ = some (.int .i64 0) := (by rw [cell_of_row w6 _ 9 _ _ _ hg6]; rfl); have e9 : w6.frozen? ⟨w5.heap.size, 9, none⟩ = false := frozen_of_row w6 _ 9 _ _ hg6; have HG6 := hid hg6; have HB6 := hid hb6; have HS6 := hid hs6; have HC6 := hid hc6; have HZ6 := hid hz6; have H50 := hid h50; have H51 := hid h51; clear hg6 hb6 hs6 hc6 hz6 h50 h51))
  have hS : (fun W' : World => W'.cell? ⟨w.heap.size, 2, none⟩ = some (.int .i64 lv) ∧ W'.cell? ⟨w.heap.size, 5, none⟩ = some (.bool imp)) w6.drew := ⟨x2, x5⟩
  have hFa : ∀ f, Fence.wide.fn f := fun _ => trivial
  refine (wpIn_wide (n := 9)).1 ?_
  refine wpIn_onlyN ?_
  refine wpIn_region_HJ (fun W' : World => W'.cell? ⟨w.heap.size, 2, none⟩ = some (.int .i64 lv) ∧ W'.cell? ⟨w.heap.size, 5, none⟩ = some (.bool imp)) 10 (by kernel_rfl) ?_
  simp only [List.size_toArray, List.length_cons, List.length_nil, Nat.reduceAdd]
  refine wpHJ_pure (v := ?vm0) 0 hFa rfl (by kernel_rfl) (fun _ _ _ h => h.elim) (Or.inl ⟨by rfl, ?ym0⟩) (.inr hS) ?rm0
  case ym0 => (intro w' _; go_simp; try rfl)
  simp only [Act.put, List.getElem_toArray, List.getElem_cons_succ, List.getElem_cons_zero, List.setIfInBounds_toArray, List.set_cons_zero, List.set_cons_succ]
  refine wpHJ_pure (v := ?vm1) 1 hFa rfl (by kernel_rfl) (fun _ _ _ h => h.elim) (Or.inl ⟨by rfl, ?ym1⟩) (.inr hS) ?rm1
  case ym1 => (intro w' _; go_simp; try rfl)
  simp only [Act.put, List.getElem_toArray, List.getElem_cons_succ, List.getElem_cons_zero, List.setIfInBounds_toArray, List.set_cons_zero, List.set_cons_succ]
  refine wpHJ_take (v := ?vm2) 2 hFa rfl (by kernel_rfl) (fun _ _ _ h => h.elim) (Or.inl ⟨by rfl, ?ym2⟩) hS ?rm2
  case ym2 => (intro w' hS'; obtain ⟨s2, s5⟩ := hS'; go_simp; try rfl)
  simp only [Act.put, List.getElem_toArray, List.getElem_cons_succ, List.getElem_cons_zero, List.setIfInBounds_toArray, List.set_cons_zero, List.set_cons_succ]
  refine wpHJ_pure (v := ?vm3) 3 hFa rfl (by kernel_rfl) (fun _ _ _ h => h.elim) (Or.inl ⟨by rfl, ?ym3⟩) (.inr hS) ?rm3
  case ym3 => (intro w' _; go_simp; try rfl)
  simp only [Act.put, List.getElem_toArray, List.getElem_cons_succ, List.getElem_cons_zero, List.setIfInBounds_toArray, List.set_cons_zero, List.set_cons_succ]
  refine wpHJ_pure (v := ?vm5) 5 hFa rfl (by kernel_rfl) (fun _ _ _ h => h.elim) (Or.inl ⟨by rfl, ?ym5⟩) (.inr hS) ?rm5
  case ym5 => (intro w' _; go_simp; try rfl)
  simp only [Act.put, List.getElem_toArray, List.getElem_cons_succ, List.getElem_cons_zero, List.setIfInBounds_toArray, List.set_cons_zero, List.set_cons_succ]
  refine wpHJ_pure (v := ?vm6) 6 hFa rfl (by kernel_rfl) (fun _ _ _ h => h.elim) (Or.inl ⟨by rfl, ?ym6⟩) (.inr hS) ?rm6
  case ym6 => (intro w' _; go_simp; try rfl)
  simp only [Act.put, List.getElem_toArray, List.getElem_cons_succ, List.getElem_cons_zero, List.setIfInBounds_toArray, List.set_cons_zero, List.set_cons_succ]
  refine wpHJ_take (v := ?vm7) 7 hFa rfl (by kernel_rfl) (fun _ _ _ h => h.elim) (Or.inl ⟨by rfl, ?ym7⟩) hS ?rm7
  case ym7 => (intro w' hS'; obtain ⟨s2, s5⟩ := hS'; go_simp; try rfl)
  simp only [Act.put, List.getElem_toArray, List.getElem_cons_succ, List.getElem_cons_zero, List.setIfInBounds_toArray, List.set_cons_zero, List.set_cons_succ]
  refine wpHJ_only 4 (by kernel_rfl) rfl ?_
  intro K hK
  go_simp
  (with_reducible refine (callsIn_wide.2 (HKM.out _)).mono ?_)
  rintro e w7 ⟨rfl, rfl⟩
  refine hK _ _ (.inr (.inr hS)) ?_
  clear hK K
  refine wpHJ_pure (v := ?vm8) 8 hFa rfl (by kernel_rfl) (fun _ _ _ h => h.elim) (Or.inl ⟨by rfl, ?ym8⟩) (.inr hS) ?rm8
  case ym8 => (intro w' _; go_simp; try rfl)
  simp only [Act.put, List.getElem_toArray, List.getElem_cons_succ, List.getElem_cons_zero, List.setIfInBounds_toArray, List.set_cons_zero, List.set_cons_succ]
  refine wpHJ_pure (v := ?vm9) 9 hFa rfl (by kernel_rfl) (fun _ _ _ h => h.elim) (Or.inl ⟨by rfl, ?ym9⟩) (.inr hS) ?rm9
  case ym9 => (intro w' _; go_simp; try rfl)
  simp only [Act.put, List.getElem_toArray, List.getElem_cons_succ, List.getElem_cons_zero, List.setIfInBounds_toArray, List.set_cons_zero, List.set_cons_succ]
  refine wpHJ_only 10 (by kernel_rfl) rfl ?_
  intro K hK
  go_simp
  refine hK _ _ (.inl rfl) ?_
  clear hK K
  refine wpHJ_done (by kernel_rfl) ?_ _
  simp only [onlyN, Exit.then]
  clear hFa
  obtain ⟨w7, hw7⟩ : ∃ W, ((((w6.setCell ⟨w5.heap.size, 2, none⟩ (.int .i64 (q : Int))).setCell ⟨w5.heap.size, 3, none⟩ (.slice none 0 0)).setCell ⟨w5.heap.size, 4, none⟩ (.slice none 0 0)).setCell ⟨w5.heap.size, 5, none⟩ (.bool imp)).drew = W := ⟨_, rfl⟩
  rw [hw7]
  have hg7 : w7.heap[w5.heap.size]? = some (.cells #[.int .u8 1, .int .u8 0, .int .i64 (q : Int), .slice none 0 0, .slice none 0 0, .bool imp, .bool false, .int .i64 0, .int .i64 0, .int .i64 0] 35 (0, 0)) := (by rw [← hw7]; exact heap_set_cell (heap_set_cell (heap_set_cell (heap_set_cell HG6.out _) _) _) _)
  have hk7 : ∀ j, j ≠ w5.heap.size → w7.heap[j]? = w6.heap[j]? := (by intro j hj; rw [← hw7]; exact (Below.heap_setCell _ _ _ _ hj).trans ((Below.heap_setCell _ _ _ _ hj).trans ((Below.heap_setCell _ _ _ _ hj).trans (Below.heap_setCell _ _ _ _ hj))))
  have hs7 : w7.heap.size = w6.heap.size := (by rw [← hw7]; simp only [World.size_drew, World.size_setCell])
  have hz7 := (hk7 (w.heap.size + 1) (by have := H51.out; omega)).trans HZ6.out
  have hb7 : Below w.heap.size w w7 := (by rw [← hw7]; exact ((((((HB5.out.trans (HB6.out.mono (by have := H50.out; omega)))).setCell (by have := H50.out; exact Nat.le_of_lt this) _).setCell (by have := H50.out; exact Nat.le_of_lt this) _).setCell (by have := H50.out; exact Nat.le_of_lt this) _).setCell (by have := H50.out; exact Nat.le_of_lt this) _).drew)
  clear x0 g0 z0 f0 y0 e0 x1 g1 z1 f1 y1 e1 x2 g2 z2 f2 y2 e2 x3 g3 z3 f3 y3 e3 x4 g4 z4 f4 y4 e4 x5 g5 z5 f5 y5 e5 x6 g6 z6 f6 y6 e6 x7 g7 z7 f7 y7 e7 x8 g8 z8 f8 y8 e8 x9 g9 z9 f9 y9 e9 hw7
  have z0 : w7.cell? ⟨w.heap.size + 1, 0, none⟩ = some (.int .u8 0) := (by rw [cell_of_row w7 _ 0 _ _ _ hz7]; rfl)
  have f0 : w7.frozen? ⟨w.heap.size + 1, 0, none⟩ = false := frozen_of_row w7 _ 0 _ _ hz7
  have z1 : w7.cell? ⟨w.heap.size + 1, 1, none⟩ = some (.int .u8 0) := (by rw [cell_of_row w7 _ 1 _ _ _ hz7]; rfl)
  have f1 : w7.frozen? ⟨w.heap.size + 1, 1, none⟩ = false := frozen_of_row w7 _ 1 _ _ hz7
  have z2 : w7.cell? ⟨w.heap.size + 1, 2, none⟩ = some (.int .i64 0) := (by rw [cell_of_row w7 _ 2 _ _ _ hz7]; rfl)
  have f2 : w7.frozen? ⟨w.heap.size + 1, 2, none⟩ = false := frozen_of_row w7 _ 2 _ _ hz7
  have z3 : w7.cell? ⟨w.heap.size + 1, 3, none⟩ = some (.slice none 0 0) := (by rw [cell_of_row w7 _ 3 _ _ _ hz7]; rfl)
  have f3 : w7.frozen? ⟨w.heap.size + 1, 3, none⟩ = false := frozen_of_row w7 _ 3 _ _ hz7
  have z4 : w7.cell? ⟨w.heap.size + 1, 4, none⟩ = some (.slice none 0 0) := (by rw [cell_of_row w7 _ 4 _ _ _ hz7]; rfl)
  have f4 : w7.frozen? ⟨w.heap.size + 1, 4, none⟩ = false := frozen_of_row w7 _ 4 _ _ hz7
  have z5 : w7.cell? ⟨w.heap.size + 1, 5, none⟩ = some (.bool false) := (by rw [cell_of_row w7 _ 5 _ _ _ hz7]; rfl)
  have f5 : w7.frozen? ⟨w.heap.size + 1, 5, none⟩ = false := frozen_of_row w7 _ 5 _ _ hz7
  have z6 : w7.cell? ⟨w.heap.size + 1, 6, none⟩ = some (.bool false) := (by rw [cell_of_row w7 _ 6 _ _ _ hz7]; rfl)
  have f6 : w7.frozen? ⟨w.heap.size + 1, 6, none⟩ = false := frozen_of_row w7 _ 6 _ _ hz7
  have z7 : w7.cell? ⟨w.heap.size + 1, 7, none⟩ = some (.int .i64 0) := (by rw [cell_of_row w7 _ 7 _ _ _ hz7]; rfl)
  have f7 : w7.frozen? ⟨w.heap.size + 1, 7, none⟩ = false := frozen_of_row w7 _ 7 _ _ hz7
  have z8 : w7.cell? ⟨w.heap.size + 1, 8, none⟩ = some (.int .i64 0) := (by rw [cell_of_row w7 _ 8 _ _ _ hz7]; rfl)
  have f8 : w7.frozen? ⟨w.heap.size + 1, 8, none⟩ = false := frozen_of_row w7 _ 8 _ _ hz7
  have z9 : w7.cell? ⟨w.heap.size + 1, 9, none⟩ = some (.int .i64 0) := (by rw [cell_of_row w7 _ 9 _ _ _ hz7]; rfl)
  have f9 : w7.frozen? ⟨w.heap.size + 1, 9, none⟩ = false := frozen_of_row w7 _ 9 _ _ hz7

  have y0 : w7.cell? ⟨w5.heap.size, 0, none⟩ = some (.int .u8 1) := (by rw [cell_of_row w7 _ 0 _ _ _ hg7]; rfl)
  have y1 : w7.cell? ⟨w5.heap.size, 1, none⟩ = some (.int .u8 0) := (by rw [cell_of_row w7 _ 1 _ _ _ hg7]; rfl)
  have y2 : w7.cell? ⟨w5.heap.size, 2, none⟩ = some (.int .i64 (q : Int)) := (by rw [cell_of_row w7 _ 2 _ _ _ hg7]; rfl)
  have y3 : w7.cell? ⟨w5.heap.size, 3, none⟩ = some (.slice none 0 0) := (by rw [cell_of_row w7 _ 3 _ _ _ hg7]; rfl)
  have y4 : w7.cell? ⟨w5.heap.size, 4, none⟩ = some (.slice none 0 0) := (by rw [cell_of_row w7 _ 4 _ _ _ hg7]; rfl)
  have y5 : w7.cell? ⟨w5.heap.size, 5, none⟩ = some (.bool imp) := (by rw [cell_of_row w7 _ 5 _ _ _ hg7]; rfl)
  have y6 : w7.cell? ⟨w5.heap.size, 6, none⟩ = some (.bool false) := (by rw [cell_of_row w7 _ 6 _ _ _ hg7]; rfl)
  have y7 : w7.cell? ⟨w5.heap.size, 7, none⟩ = some (.int .i64 0) := (by rw [cell_of_row w7 _ 7 _ _ _ hg7]; rfl)
  have y8 : w7.cell? ⟨w5.heap.size, 8, none⟩ = some (.int .i64 0) := (by rw [cell_of_row w7 _ 8 _ _ _ hg7]; rfl)
  have y9 : w7.cell? ⟨w5.heap.size, 9, none⟩ = some (.int .i64 0) := (by rw [cell_of_row w7 _ 9 _ _ _ hg7]; rfl)

  have hc7 := (hk7 w.heap.size (by have := H50.out; omega)).trans HC6.out
  have HC7 := hid hc7
  have HG7 := hid hg7
  clear hc7
  have HZ7 := hid hz7
  have HB7 := hid hb7
  have HK7 := hid hk7
  have HS7 := hid hs7
  clear hg7 hk7 hs7 hz7 hb7
  clear hS y0 y1 y2 y3 y4 y5 y6 y7 y8 y9 z0 f0 z1 f1 z2 f2 z3 f3 z4 f4 z5 f5 z6 f6 z7 f7 z8 f8 z9 f9
  have K27 := hid (show ∀ i, (W0.heap.size ≤ i ∧ i < w2.heap.size) → w7.heap[i]? = w2.heap[i]? from fun i hi => by
    have h1 := HZ.out
    have h2 := HS5.out
    exact (HK7.out i (by omega)).trans ((HB6.out.block i (by omega)).trans (HK5.out i (by omega))))
  have HM0 := hid (show MS w5.heap.size w7 w7 #[.int .u8 1, .int .u8 0, .int .i64 (q : Int), .slice none 0 0, .slice none 0 0, .bool imp, .bool false, .int .i64 0, .int .i64 0, .int .i64 0] (.slice none 0 0) (.slice none 0 0) 0 0 [] [] from ⟨HG7.out, World.ownsRow_nil _ _ _ _, World.ownsRow_nil _ _ _ _, fun i hi => (by cases hi), Below.refl _ _, by rw [HS7.out, HS6.out]; exact Nat.le_refl _⟩)
  obtain ⟨pp1, cc1, us1, ee1, _, _, _, hr1, hul1, hx1⟩ := HN1.out.op
  have ep1 : p1 = pp1 := by injection ee1 with e1 e2 e3
  subst ep1
  have HR1 := hid (show RowR (fun i => W0.heap.size ≤ i ∧ i < w2.heap.size) w7 p1 us1 from hr1.keep fun i hi => ⟨hi, K27.out i hi⟩)
  have HUL1 := hid hul1
  have HX1 := hid (show ∀ i (h : i < LA.length) (h' : i < us1.length), Nums (fun i => W0.heap.size ≤ i ∧ i < w2.heap.size) w7 us1[i] LA[i] from fun i h h' => (hx1 i h h').keep fun k hk => ⟨hk, K27.out k hk⟩)
  have HRL1 := hid (show ∀ i, (W0.heap.size ≤ i ∧ i < w2.heap.size) → i < w5.heap.size from fun i hi => by rw [HS5.out]; exact hi.2)
  have HRB1 := hid (show ∀ i, (W0.heap.size ≤ i ∧ i < w2.heap.size) → w.heap.size ≤ i from fun i hi => by have := HZ.out; omega)
  have HRB1x1 := hid (show ∀ i, (W0.heap.size ≤ i ∧ i < w2.heap.size) → i ≠ w.heap.size + 1 from fun i hi => by have := HZ.out; omega)
  clear ee1 hr1 hul1 hx1
  obtain ⟨pp2, cc2, us2, ee2, _, _, _, hr2, hul2, hx2⟩ := HN2.out.op
  have ep2 : p2 = pp2 := by injection ee2 with e1 e2 e3
  subst ep2
  have HR2 := hid (show RowR (fun i => W0.heap.size ≤ i ∧ i < w2.heap.size) w7 p2 us2 from hr2.keep fun i hi => ⟨hi, K27.out i hi⟩)
  have HUL2 := hid hul2
  have HX2 := hid (show ∀ i (h : i < LB.length) (h' : i < us2.length), Nums (fun i => W0.heap.size ≤ i ∧ i < w2.heap.size) w7 us2[i] LB[i] from fun i h h' => (hx2 i h h').keep fun k hk => ⟨hk, K27.out k hk⟩)
  have HRL2 := hid (show ∀ i, (W0.heap.size ≤ i ∧ i < w2.heap.size) → i < w5.heap.size from fun i hi => by rw [HS5.out]; exact hi.2)
  have HRB2 := hid (show ∀ i, (W0.heap.size ≤ i ∧ i < w2.heap.size) → w.heap.size ≤ i from fun i hi => by have := HZ.out; omega)
  have HRB1x2 := hid (show ∀ i, (W0.heap.size ≤ i ∧ i < w2.heap.size) → i ≠ w.heap.size + 1 from fun i hi => by have := HZ.out; omega)
  clear ee2 hr2 hul2 hx2
  go_wp2_with fail
  go_loopw [8, 9, 10] (fun iv _ _ W => ∃ (j : Nat) (pa : Option Addr) (ca : Nat) (pb : Option Addr) (cb : Nat), j ≤ c ∧ iv = .int .i64 j ∧ MS w5.heap.size w7 W #[.int .u8 1, .int .u8 0, .int .i64 (q : Int), .slice pa j ca, .slice pb j cb, .bool imp, .bool false, .int .i64 0, .int .i64 0, .int .i64 0] (.slice pa j ca) (.slice pb j cb) j j (rowsU us1 j) (rowsU us2 j)) (fun iv _ _ _ => c - (intOf iv).toNat)
  case atStart => exact ⟨0, none, 0, none, 0, Nat.zero_le _, rfl, HM0.out⟩
  case round =>
    obtain ⟨j, pa, ca, pb, cb, hj, rfl, hms⟩ := hrel
    obtain ⟨wo, rfl⟩ : ∃ wo : World, wo = wr := ⟨_, rfl⟩
    have hg0 := (hms.be.block w.heap.size H50.out).trans HC7.out
    have x3 : wo.cell? ⟨w.heap.size, 3, none⟩ = some (.slice p1 LA.length c1) := by rw [cell_of_row wo _ 3 _ _ _ hg0]; rfl
    have x4 : wo.cell? ⟨w.heap.size, 4, none⟩ = some (.slice p2 LB.length c2) := by rw [cell_of_row wo _ 4 _ _ _ hg0]; rfl
    have HMO := hid hms
    have HSG := hid (show ∀ W', W'.heap[w5.heap.size]? = some (.cells #[.int .u8 1, .int .u8 0, .int .i64 (q : Int), .slice pa j ca, .slice pb j cb, .bool imp, .bool false, .int .i64 0, .int .i64 0, .int .i64 0] 35 (0, 0)) → (fun W' : World => W'.cell? ⟨w5.heap.size, 3, none⟩ = some (.slice pa j ca) ∧ W'.cell? ⟨w5.heap.size, 4, none⟩ = some (.slice pb j cb)) W' from fun W' h => ⟨by rw [cell_of_row W' _ 3 _ _ _ h]; rfl, by rw [cell_of_row W' _ 4 _ _ _ h]; rfl⟩)
    have hS : (fun W' : World => W'.cell? ⟨w5.heap.size, 3, none⟩ = some (.slice pa j ca) ∧ W'.cell? ⟨w5.heap.size, 4, none⟩ = some (.slice pb j cb)) wo.drew := HSG.out _ hms.g
    have hgz := (hms.be.block (w.heap.size + 1) H51.out).trans HZ7.out
    have hgg := hms.g
    clear hms hg0
    by_cases hlt : j < c
    · clear hgz hgg
      by_cases h1 : j < LA.length
      · by_cases h2 : j < LB.length
        · have hu1 : j < us1.length := by rw [HUL1.out]; exact h1
          obtain ⟨b1, o1, rfl, hR1, hcc1⟩ := HR1.out.at j hu1
          have hn1 := HX1.out j h1 hu1
          have hce1 := (World.cell?_of_block (a := ⟨b1, o1 + j, none⟩) (HMO.out.be.block b1 (HRL1.out b1 hR1))).trans (hcc1 j hu1)
          have hrs1 := rowsU_succ us1 j
          rw [rowsU_in hu1] at hrs1
          have hlt1 : decide ((j : Int) < (LA.length : Int)) = true := decide_eq_true (by omega)
          have hjn1 : j < LA.length := h1
          generalize us1[j] = v1 at *
          obtain ⟨pu1, cu1, rfl, cc1, cm1, _, _⟩ := hn1.op
          obtain ⟨nu1, hnu1⟩ : ∃ nu, (LA[j]).length = nu := ⟨_, rfl⟩
          rw [hnu1] at hce1 hrs1 cc1
          have RA := hid hrs1
          clear hrs1 hn1 hcc1 hnu1
          have hu2 : j < us2.length := by rw [HUL2.out]; exact h2
          obtain ⟨b2, o2, rfl, hR2, hcc2⟩ := HR2.out.at j hu2
          have hn2 := HX2.out j h2 hu2
          have hce2 := (World.cell?_of_block (a := ⟨b2, o2 + j, none⟩) (HMO.out.be.block b2 (HRL2.out b2 hR2))).trans (hcc2 j hu2)
          have hrs2 := rowsU_succ us2 j
          rw [rowsU_in hu2] at hrs2
          have hlt2 : decide ((j : Int) < (LB.length : Int)) = true := decide_eq_true (by omega)
          have hjn2 : j < LB.length := h2
          generalize us2[j] = v2 at *
          obtain ⟨pu2, cu2, rfl, cc2, cm2, _, _⟩ := hn2.op
          obtain ⟨nu2, hnu2⟩ : ∃ nu, (LB[j]).length = nu := ⟨_, rfl⟩
          rw [hnu2] at hce2 hrs2 cc2
          have RB := hid hrs2
          clear hrs2 hn2 hcc2 hnu2
          go_wp2_with fail
          have hFa : ∀ f, Fence.wide.fn f := fun _ => trivial
          refine (wpIn_wide (n := 9)).1 ?_
          refine wpIn_onlyN ?_
          refine wpIn_region_HJ (fun W' : World => W'.cell? ⟨w5.heap.size, 3, none⟩ = some (.slice pa j ca) ∧ W'.cell? ⟨w5.heap.size, 4, none⟩ = some (.slice pb j cb)) 14 (by kernel_rfl) ?_
          simp only [List.size_toArray, List.length_cons, List.length_nil, Nat.reduceAdd]
          refine wpHJ_pure (v := ?vr11_0_1) 0 hFa rfl (by kernel_rfl) (fun _ _ _ h => h.elim) (Or.inl ⟨by rfl, ?yr11_0_1⟩) (.inr hS) ?rr11_0_1
          case yr11_0_1 => (intro w' _; go_simp; try rfl)
          simp only [Act.put, List.getElem_toArray, List.getElem_cons_succ, List.getElem_cons_zero, List.setIfInBounds_toArray, List.set_cons_zero, List.set_cons_succ]
          refine wpHJ_pure (v := ?vr11_1_2) 1 hFa rfl (by kernel_rfl) (fun _ _ _ h => h.elim) (Or.inl ⟨by rfl, ?yr11_1_2⟩) (.inr hS) ?rr11_1_2
          case yr11_1_2 => (intro w' _; go_simp; try rfl)
          simp only [Act.put, List.getElem_toArray, List.getElem_cons_succ, List.getElem_cons_zero, List.setIfInBounds_toArray, List.set_cons_zero, List.set_cons_succ]
          refine wpHJ_take (v := ?vr11_2_3) 2 hFa rfl (by kernel_rfl) (fun _ _ _ h => h.elim) (Or.inl ⟨by rfl, ?yr11_2_3⟩) hS ?rr11_2_3
          case yr11_2_3 => (intro w' hS'; obtain ⟨s3, s4⟩ := hS'; go_simp; try rfl)
          simp only [Act.put, List.getElem_toArray, List.getElem_cons_succ, List.getElem_cons_zero, List.setIfInBounds_toArray, List.set_cons_zero, List.set_cons_succ]
          refine wpHJ_pure (v := ?vr11_3_4) 3 hFa rfl (by kernel_rfl) (fun _ _ _ h => h.elim) (Or.inl ⟨by rfl, ?yr11_3_4⟩) (.inr hS) ?rr11_3_4
          case yr11_3_4 => (intro w' _; go_simp; try rfl)
          simp only [Act.put, List.getElem_toArray, List.getElem_cons_succ, List.getElem_cons_zero, List.setIfInBounds_toArray, List.set_cons_zero, List.set_cons_succ]
          refine wpHJ_pure (v := ?vr11_6_6) 6 hFa rfl (by kernel_rfl) (fun _ _ _ h => h.elim) (Or.inl ⟨by rfl, ?yr11_6_6⟩) (.inr hS) ?rr11_6_6
          case yr11_6_6 => (intro w' _; go_simp; try rfl)
          simp only [Act.put, List.getElem_toArray, List.getElem_cons_succ, List.getElem_cons_zero, List.setIfInBounds_toArray, List.set_cons_zero, List.set_cons_succ]
          refine wpHJ_pure (v := ?vr11_7_8) 7 hFa rfl (by kernel_rfl) (fun _ _ _ h => h.elim) (Or.inl ⟨by rfl, ?yr11_7_8⟩) (.inr hS) ?rr11_7_8
          case yr11_7_8 => (intro w' _; go_simp; try rfl)
          simp only [Act.put, List.getElem_toArray, List.getElem_cons_succ, List.getElem_cons_zero, List.setIfInBounds_toArray, List.set_cons_zero, List.set_cons_succ]
          refine wpHJ_take (v := ?vr11_8_10) 8 hFa rfl (by kernel_rfl) (fun _ _ _ h => h.elim) (Or.inl ⟨by rfl, ?yr11_8_10⟩) hS ?rr11_8_10
          case yr11_8_10 => (intro w' hS'; obtain ⟨s3, s4⟩ := hS'; go_simp; try rfl)
          simp only [Act.put, List.getElem_toArray, List.getElem_cons_succ, List.getElem_cons_zero, List.setIfInBounds_toArray, List.set_cons_zero, List.set_cons_succ]
          refine wpHJ_pure (v := ?vr11_9_12) 9 hFa rfl (by kernel_rfl) (fun _ _ _ h => h.elim) (Or.inl ⟨by rfl, ?yr11_9_12⟩) (.inr hS) ?rr11_9_12
          case yr11_9_12 => (intro w' _; go_simp; try rfl)
          simp only [Act.put, List.getElem_toArray, List.getElem_cons_succ, List.getElem_cons_zero, List.setIfInBounds_toArray, List.set_cons_zero, List.set_cons_succ]
          clear hS
          have HWD := hid (show wo.drew.heap.size = wo.heap.size from rfl)
          have hmd := HMO.out.drew
          generalize wo.drew = wd at *
          have HMwd := hid hmd
          clear hmd
          refine wpHJ_both 4 10 (by kernel_rfl) rfl rfl ?_ ?_
          · intro K hK
            go_simp
            obtain ⟨w4, eq4⟩ : ∃ W, wd.alloc (.cells #[.slice pu1 nu1 cu1] 36) = W := ⟨_, rfl⟩
            rw [eq4]
            have hw4 := HMwd.out.alloc (.cells #[.slice pu1 nu1 cu1] 36)
            have r4 := row_lit1 wd (.slice pu1 nu1 cu1)
            rw [eq4] at hw4 r4
            have z4 : w4.heap.size = wd.heap.size + 1 := by rw [← eq4, World.size_alloc]
            have k4 : ∀ i, i < wd.heap.size → w4.heap[i]? = wd.heap[i]? := fun i hi => by rw [← eq4, heap_al, if_neg (by omega)]
            have HMw4 := hid hw4; have R4 := hid r4; have Z4 := hid z4; have K4 := hid k4
            clear hw4 r4 z4 k4 eq4
            refine hK _ _ (.inr (.inr (HSG.out w4 HMw4.out.g))) ?_
            clear hK K
            refine wpHJ_both 5 10 (by kernel_rfl) rfl rfl ?_ ?_
            · intro K hK
              rw [if_pos (by simp [Region.wanted, yielded])]
              refine wpIn_apd hFa (.tmp 82) (.tmp 84) 29 rfl (w5.heap.size + 1) 36 (.slice none 0 0) 24 Tryd.underlying29 info_nlC rfl (.slice pa j ca) j _ rfl HMw4.out.oa (some ⟨wd.heap.size, 0, none⟩) 1 1 [.slice pu1 nu1 cu1] rfl rfl R4.out (by simp [Value.oneCell']) (by omega) (by unfold maxLen; omega) HMw4.out.sz ?_
              intro v5 w5a ho5 hg5 hv5
              simp only [Act.put, List.getElem_toArray, List.getElem_cons_succ, List.getElem_cons_zero, List.setIfInBounds_toArray, List.set_cons_zero, List.set_cons_succ]
              obtain ⟨p5, c5, rfl⟩ := owns_sliceL ho5
              have hms5 := HMw4.out.appA ho5 hg5 hv5
              have HMw5a := hid hms5; have G5 := hid hg5
              have lt5 : ∀ i, (Value.slice pa j ca).ownBlock = some i → i < wo.heap.size := fun i hi => (HMO.out.oa.lt i hi).2
              have LT5 := hid lt5
              clear hms5 ho5 hg5 hv5 lt5
              refine hK _ _ (.inr (.inr (HSG.out w5a HMw5a.out.g))) ?_
              clear hK K
              refine wpHJ_pure (v := ?vr11_12_18) 12 hFa rfl (by kernel_rfl) (fun _ _ _ h => h.elim) (Or.inl ⟨by rfl, ?yr11_12_18⟩) (.inr (HSG.out w5a HMw5a.out.g)) ?rr11_12_18
              case yr11_12_18 => (intro w' _; go_simp; try rfl)
              simp only [Act.put, List.getElem_toArray, List.getElem_cons_succ, List.getElem_cons_zero, List.setIfInBounds_toArray, List.set_cons_zero, List.set_cons_succ]
              refine wpHJ_pure (v := ?vr11_13_20) 13 hFa rfl (by kernel_rfl) (fun _ _ _ h => h.elim) (Or.inl ⟨by rfl, ?yr11_13_20⟩) (.inr (HSG.out w5a HMw5a.out.g)) ?rr11_13_20
              case yr11_13_20 => (intro w' _; go_simp; try rfl)
              simp only [Act.put, List.getElem_toArray, List.getElem_cons_succ, List.getElem_cons_zero, List.setIfInBounds_toArray, List.set_cons_zero, List.set_cons_succ]
              refine wpHJ_only 10 (by kernel_rfl) rfl ?_
              intro K hK
              go_simp
              obtain ⟨w10, eq10⟩ : ∃ W, w5a.alloc (.cells #[.slice pu2 nu2 cu2] 36) = W := ⟨_, rfl⟩
              rw [eq10]
              have hw10 := HMw5a.out.alloc (.cells #[.slice pu2 nu2 cu2] 36)
              have r10 := row_lit1 w5a (.slice pu2 nu2 cu2)
              rw [eq10] at hw10 r10
              have z10 : w10.heap.size = w5a.heap.size + 1 := by rw [← eq10, World.size_alloc]
              have k10 : ∀ i, i < w5a.heap.size → w10.heap[i]? = w5a.heap[i]? := fun i hi => by rw [← eq10, heap_al, if_neg (by omega)]
              have HMw10 := hid hw10; have R10 := hid r10; have Z10 := hid z10; have K10 := hid k10
              clear hw10 r10 z10 k10 eq10
              refine hK _ _ (.inr (.inr (HSG.out w10 HMw10.out.g))) ?_
              clear hK K
              refine wpHJ_only 11 (by kernel_rfl) rfl ?_
              intro K hK
              rw [if_pos (by simp [Region.wanted, yielded])]
              refine wpIn_apd hFa (.tmp 88) (.tmp 90) 29 rfl (w5.heap.size + 1) 36 (.slice none 0 0) 24 Tryd.underlying29 info_nlC rfl (.slice pb j cb) j _ rfl HMw10.out.ob (some ⟨w5a.heap.size, 0, none⟩) 1 1 [.slice pu2 nu2 cu2] rfl rfl R10.out (by simp [Value.oneCell']) (by omega) (by unfold maxLen; omega) HMw10.out.sz ?_
              intro v11 w11 ho11 hg11 hv11
              simp only [Act.put, List.getElem_toArray, List.getElem_cons_succ, List.getElem_cons_zero, List.setIfInBounds_toArray, List.set_cons_zero, List.set_cons_succ]
              obtain ⟨p11, c11, rfl⟩ := owns_sliceL ho11
              have hms11 := HMw10.out.appB ho11 hg11 hv11
              have HMw11 := hid hms11
              have y3 : w11.cell? ⟨w5.heap.size, 3, none⟩ = some (.slice pa j ca) := by rw [cell_of_row w11 _ 3 _ _ _ hms11.g]; rfl
              have y4 : w11.cell? ⟨w5.heap.size, 4, none⟩ = some (.slice pb j cb) := by rw [cell_of_row w11 _ 4 _ _ _ hms11.g]; rfl
              have e3 : w11.frozen? ⟨w5.heap.size, 3, none⟩ = false := frozen_of_row w11 _ 3 _ _ hms11.g
              have e4 : w11.frozen? ⟨w5.heap.size, 4, none⟩ = false := frozen_of_row w11 _ 4 _ _ hms11.g
              clear hms11 ho11 hg11 hv11
              refine hK _ _ (.inr (.inr (HSG.out w11 HMw11.out.g))) ?_
              clear hK K
              refine wpHJ_only 14 (by kernel_rfl) rfl ?_
              intro K hK
              go_simp
              refine hK _ _ (.inl rfl) ?_
              clear hK K
              refine wpHJ_pure (v := ?vr11_15_24) 15 hFa rfl (by kernel_rfl) (fun _ _ _ h => h.elim) (Or.inl ⟨by rfl, ?yr11_15_24⟩) (.inl rfl) ?rr11_15_24
              case yr11_15_24 => (intro w' _; go_simp; try rfl)
              simp only [Act.put, List.getElem_toArray, List.getElem_cons_succ, List.getElem_cons_zero, List.setIfInBounds_toArray, List.set_cons_zero, List.set_cons_succ]
              refine wpHJ_pure (v := ?vr11_16_25) 16 hFa rfl (by kernel_rfl) (fun _ _ _ h => h.elim) (Or.inl ⟨by rfl, ?yr11_16_25⟩) (.inl rfl) ?rr11_16_25
              case yr11_16_25 => (intro w' _; go_simp; try rfl)
              simp only [Act.put, List.getElem_toArray, List.getElem_cons_succ, List.getElem_cons_zero, List.setIfInBounds_toArray, List.set_cons_zero, List.set_cons_succ]
              refine wpHJ_only 17 (by kernel_rfl) rfl ?_
              intro K hK
              go_simp
              refine hK _ _ (.inr (.inl rfl)) ?_
              clear hK K
              refine wpHJ_done (by kernel_rfl) ?_ _
              simp only [onlyN, Exit.then]
              clear hFa
              go_wp2
              have hf := (HMw11.out.set 3 (.slice p5 (j + 1) c5)).set 4 (.slice p11 (j + 1) c11)
              have HF := hid hf
              clear hf y3 y4 e3 e4
              go_roundw
              case rel => exact ⟨j + 1, p5, c5, p11, c11, by omega, by go_num, by rw [RA.out, RB.out]; exact HF.out⟩
              case measure => simp [intOf]; omega
            · intro K hK
              go_simp
              obtain ⟨w10, eq10⟩ : ∃ W, w4.alloc (.cells #[.slice pu2 nu2 cu2] 36) = W := ⟨_, rfl⟩
              rw [eq10]
              have hw10 := HMw4.out.alloc (.cells #[.slice pu2 nu2 cu2] 36)
              have r10 := row_lit1 w4 (.slice pu2 nu2 cu2)
              rw [eq10] at hw10 r10
              have z10 : w10.heap.size = w4.heap.size + 1 := by rw [← eq10, World.size_alloc]
              have k10 : ∀ i, i < w4.heap.size → w10.heap[i]? = w4.heap[i]? := fun i hi => by rw [← eq10, heap_al, if_neg (by omega)]
              have HMw10 := hid hw10; have R10 := hid r10; have Z10 := hid z10; have K10 := hid k10
              clear hw10 r10 z10 k10 eq10
              refine hK _ _ (.inr (.inr (HSG.out w10 HMw10.out.g))) ?_
              clear hK K
              refine wpHJ_only 5 (by kernel_rfl) rfl ?_
              intro K hK
              rw [if_pos (by simp [Region.wanted, yielded])]
              refine wpIn_apd hFa (.tmp 82) (.tmp 84) 29 rfl (w5.heap.size + 1) 36 (.slice none 0 0) 24 Tryd.underlying29 info_nlC rfl (.slice pa j ca) j _ rfl HMw10.out.oa (some ⟨wd.heap.size, 0, none⟩) 1 1 [.slice pu1 nu1 cu1] rfl rfl (row_kept R4.out (K10.out _ (by rw [Z4.out]; omega))) (by simp [Value.oneCell']) (by omega) (by unfold maxLen; omega) HMw10.out.sz ?_
              intro v5 w5a ho5 hg5 hv5
              simp only [Act.put, List.getElem_toArray, List.getElem_cons_succ, List.getElem_cons_zero, List.setIfInBounds_toArray, List.set_cons_zero, List.set_cons_succ]
              obtain ⟨p5, c5, rfl⟩ := owns_sliceL ho5
              have hms5 := HMw10.out.appA ho5 hg5 hv5
              have HMw5a := hid hms5; have G5 := hid hg5
              have lt5 : ∀ i, (Value.slice pa j ca).ownBlock = some i → i < wo.heap.size := fun i hi => (HMO.out.oa.lt i hi).2
              have LT5 := hid lt5
              clear hms5 ho5 hg5 hv5 lt5
              refine hK _ _ (.inr (.inr (HSG.out w5a HMw5a.out.g))) ?_
              clear hK K
              refine wpHJ_pure (v := ?vr11_12_29) 12 hFa rfl (by kernel_rfl) (fun _ _ _ h => h.elim) (Or.inl ⟨by rfl, ?yr11_12_29⟩) (.inr (HSG.out w5a HMw5a.out.g)) ?rr11_12_29
              case yr11_12_29 => (intro w' _; go_simp; try rfl)
              simp only [Act.put, List.getElem_toArray, List.getElem_cons_succ, List.getElem_cons_zero, List.setIfInBounds_toArray, List.set_cons_zero, List.set_cons_succ]
              refine wpHJ_pure (v := ?vr11_13_31) 13 hFa rfl (by kernel_rfl) (fun _ _ _ h => h.elim) (Or.inl ⟨by rfl, ?yr11_13_31⟩) (.inr (HSG.out w5a HMw5a.out.g)) ?rr11_13_31
              case yr11_13_31 => (intro w' _; go_simp; try rfl)
              simp only [Act.put, List.getElem_toArray, List.getElem_cons_succ, List.getElem_cons_zero, List.setIfInBounds_toArray, List.set_cons_zero, List.set_cons_succ]
              refine wpHJ_only 11 (by kernel_rfl) rfl ?_
              intro K hK
              rw [if_pos (by simp [Region.wanted, yielded])]
              refine wpIn_apd hFa (.tmp 88) (.tmp 90) 29 rfl (w5.heap.size + 1) 36 (.slice none 0 0) 24 Tryd.underlying29 info_nlC rfl (.slice pb j cb) j _ rfl HMw5a.out.ob (some ⟨w4.heap.size, 0, none⟩) 1 1 [.slice pu2 nu2 cu2] rfl rfl (row_kept R10.out (G5.out.block _ (by rw [Z10.out]; omega) (fun e => by have := LT5.out _ e.symm; have := Z4.out; have := HWD.out; omega))) (by simp [Value.oneCell']) (by omega) (by unfold maxLen; omega) HMw5a.out.sz ?_
              intro v11 w11 ho11 hg11 hv11
              simp only [Act.put, List.getElem_toArray, List.getElem_cons_succ, List.getElem_cons_zero, List.setIfInBounds_toArray, List.set_cons_zero, List.set_cons_succ]
              obtain ⟨p11, c11, rfl⟩ := owns_sliceL ho11
              have hms11 := HMw5a.out.appB ho11 hg11 hv11
              have HMw11 := hid hms11
              have y3 : w11.cell? ⟨w5.heap.size, 3, none⟩ = some (.slice pa j ca) := by rw [cell_of_row w11 _ 3 _ _ _ hms11.g]; rfl
              have y4 : w11.cell? ⟨w5.heap.size, 4, none⟩ = some (.slice pb j cb) := by rw [cell_of_row w11 _ 4 _ _ _ hms11.g]; rfl
              have e3 : w11.frozen? ⟨w5.heap.size, 3, none⟩ = false := frozen_of_row w11 _ 3 _ _ hms11.g
              have e4 : w11.frozen? ⟨w5.heap.size, 4, none⟩ = false := frozen_of_row w11 _ 4 _ _ hms11.g
              clear hms11 ho11 hg11 hv11
              refine hK _ _ (.inr (.inr (HSG.out w11 HMw11.out.g))) ?_
              clear hK K
              refine wpHJ_only 14 (by kernel_rfl) rfl ?_
              intro K hK
              go_simp
              refine hK _ _ (.inl rfl) ?_
              clear hK K
              refine wpHJ_pure (v := ?vr11_15_34) 15 hFa rfl (by kernel_rfl) (fun _ _ _ h => h.elim) (Or.inl ⟨by rfl, ?yr11_15_34⟩) (.inl rfl) ?rr11_15_34
              case yr11_15_34 => (intro w' _; go_simp; try rfl)
              simp only [Act.put, List.getElem_toArray, List.getElem_cons_succ, List.getElem_cons_zero, List.setIfInBounds_toArray, List.set_cons_zero, List.set_cons_succ]
              refine wpHJ_pure (v := ?vr11_16_35) 16 hFa rfl (by kernel_rfl) (fun _ _ _ h => h.elim) (Or.inl ⟨by rfl, ?yr11_16_35⟩) (.inl rfl) ?rr11_16_35
              case yr11_16_35 => (intro w' _; go_simp; try rfl)
              simp only [Act.put, List.getElem_toArray, List.getElem_cons_succ, List.getElem_cons_zero, List.setIfInBounds_toArray, List.set_cons_zero, List.set_cons_succ]
              refine wpHJ_only 17 (by kernel_rfl) rfl ?_
              intro K hK
              go_simp
              refine hK _ _ (.inr (.inl rfl)) ?_
              clear hK K
              refine wpHJ_done (by kernel_rfl) ?_ _
              simp only [onlyN, Exit.then]
              clear hFa
              go_wp2
              have hf := (HMw11.out.set 3 (.slice p5 (j + 1) c5)).set 4 (.slice p11 (j + 1) c11)
              have HF := hid hf
              clear hf y3 y4 e3 e4
              go_roundw
              case rel => exact ⟨j + 1, p5, c5, p11, c11, by omega, by go_num, by rw [RA.out, RB.out]; exact HF.out⟩
              case measure => simp [intOf]; omega
          · intro K hK
            go_simp
            obtain ⟨w10, eq10⟩ : ∃ W, wd.alloc (.cells #[.slice pu2 nu2 cu2] 36) = W := ⟨_, rfl⟩
            rw [eq10]
            have hw10 := HMwd.out.alloc (.cells #[.slice pu2 nu2 cu2] 36)
            have r10 := row_lit1 wd (.slice pu2 nu2 cu2)
            rw [eq10] at hw10 r10
            have z10 : w10.heap.size = wd.heap.size + 1 := by rw [← eq10, World.size_alloc]
            have k10 : ∀ i, i < wd.heap.size → w10.heap[i]? = wd.heap[i]? := fun i hi => by rw [← eq10, heap_al, if_neg (by omega)]
            have HMw10 := hid hw10; have R10 := hid r10; have Z10 := hid z10; have K10 := hid k10
            clear hw10 r10 z10 k10 eq10
            refine hK _ _ (.inr (.inr (HSG.out w10 HMw10.out.g))) ?_
            clear hK K
            refine wpHJ_only 4 (by kernel_rfl) rfl ?_
            intro K hK
            go_simp
            obtain ⟨w4, eq4⟩ : ∃ W, w10.alloc (.cells #[.slice pu1 nu1 cu1] 36) = W := ⟨_, rfl⟩
            rw [eq4]
            have hw4 := HMw10.out.alloc (.cells #[.slice pu1 nu1 cu1] 36)
            have r4 := row_lit1 w10 (.slice pu1 nu1 cu1)
            rw [eq4] at hw4 r4
            have z4 : w4.heap.size = w10.heap.size + 1 := by rw [← eq4, World.size_alloc]
            have k4 : ∀ i, i < w10.heap.size → w4.heap[i]? = w10.heap[i]? := fun i hi => by rw [← eq4, heap_al, if_neg (by omega)]
            have HMw4 := hid hw4; have R4 := hid r4; have Z4 := hid z4; have K4 := hid k4
            clear hw4 r4 z4 k4 eq4
            refine hK _ _ (.inr (.inr (HSG.out w4 HMw4.out.g))) ?_
            clear hK K
            refine wpHJ_only 5 (by kernel_rfl) rfl ?_
            intro K hK
            rw [if_pos (by simp [Region.wanted, yielded])]
            refine wpIn_apd hFa (.tmp 82) (.tmp 84) 29 rfl (w5.heap.size + 1) 36 (.slice none 0 0) 24 Tryd.underlying29 info_nlC rfl (.slice pa j ca) j _ rfl HMw4.out.oa (some ⟨w10.heap.size, 0, none⟩) 1 1 [.slice pu1 nu1 cu1] rfl rfl R4.out (by simp [Value.oneCell']) (by omega) (by unfold maxLen; omega) HMw4.out.sz ?_
            intro v5 w5a ho5 hg5 hv5
            simp only [Act.put, List.getElem_toArray, List.getElem_cons_succ, List.getElem_cons_zero, List.setIfInBounds_toArray, List.set_cons_zero, List.set_cons_succ]
            obtain ⟨p5, c5, rfl⟩ := owns_sliceL ho5
            have hms5 := HMw4.out.appA ho5 hg5 hv5
            have HMw5a := hid hms5; have G5 := hid hg5
            have lt5 : ∀ i, (Value.slice pa j ca).ownBlock = some i → i < wo.heap.size := fun i hi => (HMO.out.oa.lt i hi).2
            have LT5 := hid lt5
            clear hms5 ho5 hg5 hv5 lt5
            refine hK _ _ (.inr (.inr (HSG.out w5a HMw5a.out.g))) ?_
            clear hK K
            refine wpHJ_pure (v := ?vr11_12_40) 12 hFa rfl (by kernel_rfl) (fun _ _ _ h => h.elim) (Or.inl ⟨by rfl, ?yr11_12_40⟩) (.inr (HSG.out w5a HMw5a.out.g)) ?rr11_12_40
            case yr11_12_40 => (intro w' _; go_simp; try rfl)
            simp only [Act.put, List.getElem_toArray, List.getElem_cons_succ, List.getElem_cons_zero, List.setIfInBounds_toArray, List.set_cons_zero, List.set_cons_succ]
            refine wpHJ_pure (v := ?vr11_13_42) 13 hFa rfl (by kernel_rfl) (fun _ _ _ h => h.elim) (Or.inl ⟨by rfl, ?yr11_13_42⟩) (.inr (HSG.out w5a HMw5a.out.g)) ?rr11_13_42
            case yr11_13_42 => (intro w' _; go_simp; try rfl)
            simp only [Act.put, List.getElem_toArray, List.getElem_cons_succ, List.getElem_cons_zero, List.setIfInBounds_toArray, List.set_cons_zero, List.set_cons_succ]
            refine wpHJ_only 11 (by kernel_rfl) rfl ?_
            intro K hK
            rw [if_pos (by simp [Region.wanted, yielded])]
            refine wpIn_apd hFa (.tmp 88) (.tmp 90) 29 rfl (w5.heap.size + 1) 36 (.slice none 0 0) 24 Tryd.underlying29 info_nlC rfl (.slice pb j cb) j _ rfl HMw5a.out.ob (some ⟨wd.heap.size, 0, none⟩) 1 1 [.slice pu2 nu2 cu2] rfl rfl (row_kept (row_kept R10.out (K4.out _ (by rw [Z10.out]; omega))) (G5.out.block _ (by rw [Z4.out, Z10.out]; omega) (fun e => by have := LT5.out _ e.symm; have := HWD.out; omega))) (by simp [Value.oneCell']) (by omega) (by unfold maxLen; omega) HMw5a.out.sz ?_
            intro v11 w11 ho11 hg11 hv11
            simp only [Act.put, List.getElem_toArray, List.getElem_cons_succ, List.getElem_cons_zero, List.setIfInBounds_toArray, List.set_cons_zero, List.set_cons_succ]
            obtain ⟨p11, c11, rfl⟩ := owns_sliceL ho11
            have hms11 := HMw5a.out.appB ho11 hg11 hv11
            have HMw11 := hid hms11
            have y3 : w11.cell? ⟨w5.heap.size, 3, none⟩ = some (.slice pa j ca) := by rw [cell_of_row w11 _ 3 _ _ _ hms11.g]; rfl
            have y4 : w11.cell? ⟨w5.heap.size, 4, none⟩ = some (.slice pb j cb) := by rw [cell_of_row w11 _ 4 _ _ _ hms11.g]; rfl
            have e3 : w11.frozen? ⟨w5.heap.size, 3, none⟩ = false := frozen_of_row w11 _ 3 _ _ hms11.g
            have e4 : w11.frozen? ⟨w5.heap.size, 4, none⟩ = false := frozen_of_row w11 _ 4 _ _ hms11.g
            clear hms11 ho11 hg11 hv11
            refine hK _ _ (.inr (.inr (HSG.out w11 HMw11.out.g))) ?_
            clear hK K
            refine wpHJ_only 14 (by kernel_rfl) rfl ?_
            intro K hK
            go_simp
            refine hK _ _ (.inl rfl) ?_
            clear hK K
            refine wpHJ_pure (v := ?vr11_15_45) 15 hFa rfl (by kernel_rfl) (fun _ _ _ h => h.elim) (Or.inl ⟨by rfl, ?yr11_15_45⟩) (.inl rfl) ?rr11_15_45
            case yr11_15_45 => (intro w' _; go_simp; try rfl)
            simp only [Act.put, List.getElem_toArray, List.getElem_cons_succ, List.getElem_cons_zero, List.setIfInBounds_toArray, List.set_cons_zero, List.set_cons_succ]
            refine wpHJ_pure (v := ?vr11_16_46) 16 hFa rfl (by kernel_rfl) (fun _ _ _ h => h.elim) (Or.inl ⟨by rfl, ?yr11_16_46⟩) (.inl rfl) ?rr11_16_46
            case yr11_16_46 => (intro w' _; go_simp; try rfl)
            simp only [Act.put, List.getElem_toArray, List.getElem_cons_succ, List.getElem_cons_zero, List.setIfInBounds_toArray, List.set_cons_zero, List.set_cons_succ]
            refine wpHJ_only 17 (by kernel_rfl) rfl ?_
            intro K hK
            go_simp
            refine hK _ _ (.inr (.inl rfl)) ?_
            clear hK K
            refine wpHJ_done (by kernel_rfl) ?_ _
            simp only [onlyN, Exit.then]
            clear hFa
            go_wp2
            have hf := (HMw11.out.set 3 (.slice p5 (j + 1) c5)).set 4 (.slice p11 (j + 1) c11)
            have HF := hid hf
            clear hf y3 y4 e3 e4
            go_roundw
            case rel => exact ⟨j + 1, p5, c5, p11, c11, by omega, by go_num, by rw [RA.out, RB.out]; exact HF.out⟩
            case measure => simp [intOf]; omega
        · have hu1 : j < us1.length := by rw [HUL1.out]; exact h1
          obtain ⟨b1, o1, rfl, hR1, hcc1⟩ := HR1.out.at j hu1
          have hn1 := HX1.out j h1 hu1
          have hce1 := (World.cell?_of_block (a := ⟨b1, o1 + j, none⟩) (HMO.out.be.block b1 (HRL1.out b1 hR1))).trans (hcc1 j hu1)
          have hrs1 := rowsU_succ us1 j
          rw [rowsU_in hu1] at hrs1
          have hlt1 : decide ((j : Int) < (LA.length : Int)) = true := decide_eq_true (by omega)
          have hjn1 : j < LA.length := h1
          generalize us1[j] = v1 at *
          obtain ⟨pu1, cu1, rfl, cc1, cm1, _, _⟩ := hn1.op
          obtain ⟨nu1, hnu1⟩ : ∃ nu, (LA[j]).length = nu := ⟨_, rfl⟩
          rw [hnu1] at hce1 hrs1 cc1
          have RA := hid hrs1
          clear hrs1 hn1 hcc1 hnu1
          have hrs2 := rowsU_succ us2 j
          rw [rowsU_out (by rw [HUL2.out]; omega)] at hrs2
          have hlt2 : decide ((j : Int) < (LB.length : Int)) = false := decide_eq_false (by omega)
          have hjn2 : ¬ j < LB.length := h2
          have RB := hid hrs2
          clear hrs2
          go_wp2_with fail
          have hFa : ∀ f, Fence.wide.fn f := fun _ => trivial
          refine (wpIn_wide (n := 9)).1 ?_
          refine wpIn_onlyN ?_
          refine wpIn_region_HJ (fun W' : World => W'.cell? ⟨w5.heap.size, 3, none⟩ = some (.slice pa j ca) ∧ W'.cell? ⟨w5.heap.size, 4, none⟩ = some (.slice pb j cb)) 14 (by kernel_rfl) ?_
          simp only [List.size_toArray, List.length_cons, List.length_nil, Nat.reduceAdd]
          refine wpHJ_pure (v := ?vr10_0_1) 0 hFa rfl (by kernel_rfl) (fun _ _ _ h => h.elim) (Or.inl ⟨by rfl, ?yr10_0_1⟩) (.inr hS) ?rr10_0_1
          case yr10_0_1 => (intro w' _; go_simp; try rfl)
          simp only [Act.put, List.getElem_toArray, List.getElem_cons_succ, List.getElem_cons_zero, List.setIfInBounds_toArray, List.set_cons_zero, List.set_cons_succ]
          refine wpHJ_pure (v := ?vr10_1_2) 1 hFa rfl (by kernel_rfl) (fun _ _ _ h => h.elim) (Or.inl ⟨by rfl, ?yr10_1_2⟩) (.inr hS) ?rr10_1_2
          case yr10_1_2 => (intro w' _; go_simp; try rfl)
          simp only [Act.put, List.getElem_toArray, List.getElem_cons_succ, List.getElem_cons_zero, List.setIfInBounds_toArray, List.set_cons_zero, List.set_cons_succ]
          refine wpHJ_take (v := ?vr10_2_3) 2 hFa rfl (by kernel_rfl) (fun _ _ _ h => h.elim) (Or.inl ⟨by rfl, ?yr10_2_3⟩) hS ?rr10_2_3
          case yr10_2_3 => (intro w' hS'; obtain ⟨s3, s4⟩ := hS'; go_simp; try rfl)
          simp only [Act.put, List.getElem_toArray, List.getElem_cons_succ, List.getElem_cons_zero, List.setIfInBounds_toArray, List.set_cons_zero, List.set_cons_succ]
          refine wpHJ_pure (v := ?vr10_3_4) 3 hFa rfl (by kernel_rfl) (fun _ _ _ h => h.elim) (Or.inl ⟨by rfl, ?yr10_3_4⟩) (.inr hS) ?rr10_3_4
          case yr10_3_4 => (intro w' _; go_simp; try rfl)
          simp only [Act.put, List.getElem_toArray, List.getElem_cons_succ, List.getElem_cons_zero, List.setIfInBounds_toArray, List.set_cons_zero, List.set_cons_succ]
          refine wpHJ_pure (v := ?vr10_6_6) 6 hFa rfl (by kernel_rfl) (fun _ _ _ h => h.elim) (Or.inl ⟨by rfl, ?yr10_6_6⟩) (.inr hS) ?rr10_6_6
          case yr10_6_6 => (intro w' _; go_simp; try rfl)
          simp only [Act.put, List.getElem_toArray, List.getElem_cons_succ, List.getElem_cons_zero, List.setIfInBounds_toArray, List.set_cons_zero, List.set_cons_succ]
          refine wpHJ_pure (v := ?vr10_7_8) 7 hFa rfl (by kernel_rfl) (fun _ _ _ h => h.elim) (Or.inl ⟨by rfl, ?yr10_7_8⟩) (.inr hS) ?rr10_7_8
          case yr10_7_8 => (intro w' _; go_simp; try rfl)
          simp only [Act.put, List.getElem_toArray, List.getElem_cons_succ, List.getElem_cons_zero, List.setIfInBounds_toArray, List.set_cons_zero, List.set_cons_succ]
          refine wpHJ_take (v := ?vr10_8_10) 8 hFa rfl (by kernel_rfl) (fun _ _ _ h => h.elim) (Or.inl ⟨by rfl, ?yr10_8_10⟩) hS ?rr10_8_10
          case yr10_8_10 => (intro w' hS'; obtain ⟨s3, s4⟩ := hS'; go_simp; try rfl)
          simp only [Act.put, List.getElem_toArray, List.getElem_cons_succ, List.getElem_cons_zero, List.setIfInBounds_toArray, List.set_cons_zero, List.set_cons_succ]
          refine wpHJ_pure (v := ?vr10_9_12) 9 hFa rfl (by kernel_rfl) (fun _ _ _ h => h.elim) (Or.inl ⟨by rfl, ?yr10_9_12⟩) (.inr hS) ?rr10_9_12
          case yr10_9_12 => (intro w' _; go_simp; try rfl)
          simp only [Act.put, List.getElem_toArray, List.getElem_cons_succ, List.getElem_cons_zero, List.setIfInBounds_toArray, List.set_cons_zero, List.set_cons_succ]
          clear hS
          have HWD := hid (show wo.drew.heap.size = wo.heap.size from rfl)
          have hmd := HMO.out.drew
          generalize wo.drew = wd at *
          have HMwd := hid hmd
          clear hmd
          refine wpHJ_both 4 10 (by kernel_rfl) rfl rfl ?_ ?_
          · intro K hK
            go_simp
            obtain ⟨w4, eq4⟩ : ∃ W, wd.alloc (.cells #[.slice pu1 nu1 cu1] 36) = W := ⟨_, rfl⟩
            rw [eq4]
            have hw4 := HMwd.out.alloc (.cells #[.slice pu1 nu1 cu1] 36)
            have r4 := row_lit1 wd (.slice pu1 nu1 cu1)
            rw [eq4] at hw4 r4
            have z4 : w4.heap.size = wd.heap.size + 1 := by rw [← eq4, World.size_alloc]
            have k4 : ∀ i, i < wd.heap.size → w4.heap[i]? = wd.heap[i]? := fun i hi => by rw [← eq4, heap_al, if_neg (by omega)]
            have HMw4 := hid hw4; have R4 := hid r4; have Z4 := hid z4; have K4 := hid k4
            clear hw4 r4 z4 k4 eq4
            refine hK _ _ (.inr (.inr (HSG.out w4 HMw4.out.g))) ?_
            clear hK K
            refine wpHJ_both 5 10 (by kernel_rfl) rfl rfl ?_ ?_
            · intro K hK
              rw [if_pos (by simp [Region.wanted, yielded])]
              refine wpIn_apd hFa (.tmp 82) (.tmp 84) 29 rfl (w5.heap.size + 1) 36 (.slice none 0 0) 24 Tryd.underlying29 info_nlC rfl (.slice pa j ca) j _ rfl HMw4.out.oa (some ⟨wd.heap.size, 0, none⟩) 1 1 [.slice pu1 nu1 cu1] rfl rfl R4.out (by simp [Value.oneCell']) (by omega) (by unfold maxLen; omega) HMw4.out.sz ?_
              intro v5 w5a ho5 hg5 hv5
              simp only [Act.put, List.getElem_toArray, List.getElem_cons_succ, List.getElem_cons_zero, List.setIfInBounds_toArray, List.set_cons_zero, List.set_cons_succ]
              obtain ⟨p5, c5, rfl⟩ := owns_sliceL ho5
              have hms5 := HMw4.out.appA ho5 hg5 hv5
              have HMw5a := hid hms5; have G5 := hid hg5
              have lt5 : ∀ i, (Value.slice pa j ca).ownBlock = some i → i < wo.heap.size := fun i hi => (HMO.out.oa.lt i hi).2
              have LT5 := hid lt5
              clear hms5 ho5 hg5 hv5 lt5
              refine hK _ _ (.inr (.inr (HSG.out w5a HMw5a.out.g))) ?_
              clear hK K
              refine wpHJ_pure (v := ?vr10_12_18) 12 hFa rfl (by kernel_rfl) (fun _ _ _ h => h.elim) (Or.inl ⟨by rfl, ?yr10_12_18⟩) (.inr (HSG.out w5a HMw5a.out.g)) ?rr10_12_18
              case yr10_12_18 => (intro w' _; go_simp; try rfl)
              simp only [Act.put, List.getElem_toArray, List.getElem_cons_succ, List.getElem_cons_zero, List.setIfInBounds_toArray, List.set_cons_zero, List.set_cons_succ]
              refine wpHJ_pure (v := ?vr10_13_20) 13 hFa rfl (by kernel_rfl) (fun _ _ _ h => h.elim) (Or.inl ⟨by rfl, ?yr10_13_20⟩) (.inr (HSG.out w5a HMw5a.out.g)) ?rr10_13_20
              case yr10_13_20 => (intro w' _; go_simp; try rfl)
              simp only [Act.put, List.getElem_toArray, List.getElem_cons_succ, List.getElem_cons_zero, List.setIfInBounds_toArray, List.set_cons_zero, List.set_cons_succ]
              refine wpHJ_only 10 (by kernel_rfl) rfl ?_
              intro K hK
              go_simp
              obtain ⟨w10, eq10⟩ : ∃ W, w5a.alloc (.cells #[.slice none 0 0] 36) = W := ⟨_, rfl⟩
              rw [eq10]
              have hw10 := HMw5a.out.alloc (.cells #[.slice none 0 0] 36)
              have r10 := row_lit1 w5a (.slice none 0 0)
              rw [eq10] at hw10 r10
              have z10 : w10.heap.size = w5a.heap.size + 1 := by rw [← eq10, World.size_alloc]
              have k10 : ∀ i, i < w5a.heap.size → w10.heap[i]? = w5a.heap[i]? := fun i hi => by rw [← eq10, heap_al, if_neg (by omega)]
              have HMw10 := hid hw10; have R10 := hid r10; have Z10 := hid z10; have K10 := hid k10
              clear hw10 r10 z10 k10 eq10
              refine hK _ _ (.inr (.inr (HSG.out w10 HMw10.out.g))) ?_
              clear hK K
              refine wpHJ_only 11 (by kernel_rfl) rfl ?_
              intro K hK
              rw [if_pos (by simp [Region.wanted, yielded])]
              refine wpIn_apd hFa (.tmp 88) (.tmp 90) 29 rfl (w5.heap.size + 1) 36 (.slice none 0 0) 24 Tryd.underlying29 info_nlC rfl (.slice pb j cb) j _ rfl HMw10.out.ob (some ⟨w5a.heap.size, 0, none⟩) 1 1 [.slice none 0 0] rfl rfl R10.out (by simp [Value.oneCell']) (by omega) (by unfold maxLen; omega) HMw10.out.sz ?_
              intro v11 w11 ho11 hg11 hv11
              simp only [Act.put, List.getElem_toArray, List.getElem_cons_succ, List.getElem_cons_zero, List.setIfInBounds_toArray, List.set_cons_zero, List.set_cons_succ]
              obtain ⟨p11, c11, rfl⟩ := owns_sliceL ho11
              have hms11 := HMw10.out.appB ho11 hg11 hv11
              have HMw11 := hid hms11
              have y3 : w11.cell? ⟨w5.heap.size, 3, none⟩ = some (.slice pa j ca) := by rw [cell_of_row w11 _ 3 _ _ _ hms11.g]; rfl
              have y4 : w11.cell? ⟨w5.heap.size, 4, none⟩ = some (.slice pb j cb) := by rw [cell_of_row w11 _ 4 _ _ _ hms11.g]; rfl
              have e3 : w11.frozen? ⟨w5.heap.size, 3, none⟩ = false := frozen_of_row w11 _ 3 _ _ hms11.g
              have e4 : w11.frozen? ⟨w5.heap.size, 4, none⟩ = false := frozen_of_row w11 _ 4 _ _ hms11.g
              clear hms11 ho11 hg11 hv11
              refine hK _ _ (.inr (.inr (HSG.out w11 HMw11.out.g))) ?_
              clear hK K
              refine wpHJ_only 14 (by kernel_rfl) rfl ?_
              intro K hK
              go_simp
              refine hK _ _ (.inl rfl) ?_
              clear hK K
              refine wpHJ_pure (v := ?vr10_15_24) 15 hFa rfl (by kernel_rfl) (fun _ _ _ h => h.elim) (Or.inl ⟨by rfl, ?yr10_15_24⟩) (.inl rfl) ?rr10_15_24
              case yr10_15_24 => (intro w' _; go_simp; try rfl)
              simp only [Act.put, List.getElem_toArray, List.getElem_cons_succ, List.getElem_cons_zero, List.setIfInBounds_toArray, List.set_cons_zero, List.set_cons_succ]
              refine wpHJ_pure (v := ?vr10_16_25) 16 hFa rfl (by kernel_rfl) (fun _ _ _ h => h.elim) (Or.inl ⟨by rfl, ?yr10_16_25⟩) (.inl rfl) ?rr10_16_25
              case yr10_16_25 => (intro w' _; go_simp; try rfl)
              simp only [Act.put, List.getElem_toArray, List.getElem_cons_succ, List.getElem_cons_zero, List.setIfInBounds_toArray, List.set_cons_zero, List.set_cons_succ]
              refine wpHJ_only 17 (by kernel_rfl) rfl ?_
              intro K hK
              go_simp
              refine hK _ _ (.inr (.inl rfl)) ?_
              clear hK K
              refine wpHJ_done (by kernel_rfl) ?_ _
              simp only [onlyN, Exit.then]
              clear hFa
              go_wp2
              have hf := (HMw11.out.set 3 (.slice p5 (j + 1) c5)).set 4 (.slice p11 (j + 1) c11)
              have HF := hid hf
              clear hf y3 y4 e3 e4
              go_roundw
              case rel => exact ⟨j + 1, p5, c5, p11, c11, by omega, by go_num, by rw [RA.out, RB.out]; exact HF.out⟩
              case measure => simp [intOf]; omega
            · intro K hK
              go_simp
              obtain ⟨w10, eq10⟩ : ∃ W, w4.alloc (.cells #[.slice none 0 0] 36) = W := ⟨_, rfl⟩
              rw [eq10]
              have hw10 := HMw4.out.alloc (.cells #[.slice none 0 0] 36)
              have r10 := row_lit1 w4 (.slice none 0 0)
              rw [eq10] at hw10 r10
              have z10 : w10.heap.size = w4.heap.size + 1 := by rw [← eq10, World.size_alloc]
              have k10 : ∀ i, i < w4.heap.size → w10.heap[i]? = w4.heap[i]? := fun i hi => by rw [← eq10, heap_al, if_neg (by omega)]
              have HMw10 := hid hw10; have R10 := hid r10; have Z10 := hid z10; have K10 := hid k10
              clear hw10 r10 z10 k10 eq10
              refine hK _ _ (.inr (.inr (HSG.out w10 HMw10.out.g))) ?_
              clear hK K
              refine wpHJ_only 5 (by kernel_rfl) rfl ?_
              intro K hK
              rw [if_pos (by simp [Region.wanted, yielded])]
              refine wpIn_apd hFa (.tmp 82) (.tmp 84) 29 rfl (w5.heap.size + 1) 36 (.slice none 0 0) 24 Tryd.underlying29 info_nlC rfl (.slice pa j ca) j _ rfl HMw10.out.oa (some ⟨wd.heap.size, 0, none⟩) 1 1 [.slice pu1 nu1 cu1] rfl rfl (row_kept R4.out (K10.out _ (by rw [Z4.out]; omega))) (by simp [Value.oneCell']) (by omega) (by unfold maxLen; omega) HMw10.out.sz ?_
              intro v5 w5a ho5 hg5 hv5
              simp only [Act.put, List.getElem_toArray, List.getElem_cons_succ, List.getElem_cons_zero, List.setIfInBounds_toArray, List.set_cons_zero, List.set_cons_succ]
              obtain ⟨p5, c5, rfl⟩ := owns_sliceL ho5
              have hms5 := HMw10.out.appA ho5 hg5 hv5
              have HMw5a := hid hms5; have G5 := hid hg5
              have lt5 : ∀ i, (Value.slice pa j ca).ownBlock = some i → i < wo.heap.size := fun i hi => (HMO.out.oa.lt i hi).2
              have LT5 := hid lt5
              clear hms5 ho5 hg5 hv5 lt5
              refine hK _ _ (.inr (.inr (HSG.out w5a HMw5a.out.g))) ?_
              clear hK K
              refine wpHJ_pure (v := ?vr10_12_29) 12 hFa rfl (by kernel_rfl) (fun _ _ _ h => h.elim) (Or.inl ⟨by rfl, ?yr10_12_29⟩) (.inr (HSG.out w5a HMw5a.out.g)) ?rr10_12_29
              case yr10_12_29 => (intro w' _; go_simp; try rfl)
              simp only [Act.put, List.getElem_toArray, List.getElem_cons_succ, List.getElem_cons_zero, List.setIfInBounds_toArray, List.set_cons_zero, List.set_cons_succ]
              refine wpHJ_pure (v := ?vr10_13_31) 13 hFa rfl (by kernel_rfl) (fun _ _ _ h => h.elim) (Or.inl ⟨by rfl, ?yr10_13_31⟩) (.inr (HSG.out w5a HMw5a.out.g)) ?rr10_13_31
              case yr10_13_31 => (intro w' _; go_simp; try rfl)
              simp only [Act.put, List.getElem_toArray, List.getElem_cons_succ, List.getElem_cons_zero, List.setIfInBounds_toArray, List.set_cons_zero, List.set_cons_succ]
              refine wpHJ_only 11 (by kernel_rfl) rfl ?_
              intro K hK
              rw [if_pos (by simp [Region.wanted, yielded])]
              refine wpIn_apd hFa (.tmp 88) (.tmp 90) 29 rfl (w5.heap.size + 1) 36 (.slice none 0 0) 24 Tryd.underlying29 info_nlC rfl (.slice pb j cb) j _ rfl HMw5a.out.ob (some ⟨w4.heap.size, 0, none⟩) 1 1 [.slice none 0 0] rfl rfl (row_kept R10.out (G5.out.block _ (by rw [Z10.out]; omega) (fun e => by have := LT5.out _ e.symm; have := Z4.out; have := HWD.out; omega))) (by simp [Value.oneCell']) (by omega) (by unfold maxLen; omega) HMw5a.out.sz ?_
              intro v11 w11 ho11 hg11 hv11
              simp only [Act.put, List.getElem_toArray, List.getElem_cons_succ, List.getElem_cons_zero, List.setIfInBounds_toArray, List.set_cons_zero, List.set_cons_succ]
              obtain ⟨p11, c11, rfl⟩ := owns_sliceL ho11
              have hms11 := HMw5a.out.appB ho11 hg11 hv11
              have HMw11 := hid hms11
              have y3 : w11.cell? ⟨w5.heap.size, 3, none⟩ = some (.slice pa j ca) := by rw [cell_of_row w11 _ 3 _ _ _ hms11.g]; rfl
              have y4 : w11.cell? ⟨w5.heap.size, 4, none⟩ = some (.slice pb j cb) := by rw [cell_of_row w11 _ 4 _ _ _ hms11.g]; rfl
              have e3 : w11.frozen? ⟨w5.heap.size, 3, none⟩ = false := frozen_of_row w11 _ 3 _ _ hms11.g
              have e4 : w11.frozen? ⟨w5.heap.size, 4, none⟩ = false := frozen_of_row w11 _ 4 _ _ hms11.g
              clear hms11 ho11 hg11 hv11
              refine hK _ _ (.inr (.inr (HSG.out w11 HMw11.out.g))) ?_
              clear hK K
              refine wpHJ_only 14 (by kernel_rfl) rfl ?_
              intro K hK
              go_simp
              refine hK _ _ (.inl rfl) ?_
              clear hK K
              refine wpHJ_pure (v := ?vr10_15_34) 15 hFa rfl (by kernel_rfl) (fun _ _ _ h => h.elim) (Or.inl ⟨by rfl, ?yr10_15_34⟩) (.inl rfl) ?rr10_15_34
              case yr10_15_34 => (intro w' _; go_simp; try rfl)
              simp only [Act.put, List.getElem_toArray, List.getElem_cons_succ, List.getElem_cons_zero, List.setIfInBounds_toArray, List.set_cons_zero, List.set_cons_succ]
              refine wpHJ_pure (v := ?vr10_16_35) 16 hFa rfl (by kernel_rfl) (fun _ _ _ h => h.elim) (Or.inl ⟨by rfl, ?yr10_16_35⟩) (.inl rfl) ?rr10_16_35
              case yr10_16_35 => (intro w' _; go_simp; try rfl)
              simp only [Act.put, List.getElem_toArray, List.getElem_cons_succ, List.getElem_cons_zero, List.setIfInBounds_toArray, List.set_cons_zero, List.set_cons_succ]
              refine wpHJ_only 17 (by kernel_rfl) rfl ?_
              intro K hK
              go_simp
              refine hK _ _ (.inr (.inl rfl)) ?_
              clear hK K
              refine wpHJ_done (by kernel_rfl) ?_ _
              simp only [onlyN, Exit.then]
              clear hFa
              go_wp2
              have hf := (HMw11.out.set 3 (.slice p5 (j + 1) c5)).set 4 (.slice p11 (j + 1) c11)
              have HF := hid hf
              clear hf y3 y4 e3 e4
              go_roundw
              case rel => exact ⟨j + 1, p5, c5, p11, c11, by omega, by go_num, by rw [RA.out, RB.out]; exact HF.out⟩
              case measure => simp [intOf]; omega
          · intro K hK
            go_simp
            obtain ⟨w10, eq10⟩ : ∃ W, wd.alloc (.cells #[.slice none 0 0] 36) = W := ⟨_, rfl⟩
            rw [eq10]
            have hw10 := HMwd.out.alloc (.cells #[.slice none 0 0] 36)
            have r10 := row_lit1 wd (.slice none 0 0)
            rw [eq10] at hw10 r10
            have z10 : w10.heap.size = wd.heap.size + 1 := by rw [← eq10, World.size_alloc]
            have k10 : ∀ i, i < wd.heap.size → w10.heap[i]? = wd.heap[i]? := fun i hi => by rw [← eq10, heap_al, if_neg (by omega)]
            have HMw10 := hid hw10; have R10 := hid r10; have Z10 := hid z10; have K10 := hid k10
            clear hw10 r10 z10 k10 eq10
            refine hK _ _ (.inr (.inr (HSG.out w10 HMw10.out.g))) ?_
            clear hK K
            refine wpHJ_only 4 (by kernel_rfl) rfl ?_
            intro K hK
            go_simp
            obtain ⟨w4, eq4⟩ : ∃ W, w10.alloc (.cells #[.slice pu1 nu1 cu1] 36) = W := ⟨_, rfl⟩
            rw [eq4]
            have hw4 := HMw10.out.alloc (.cells #[.slice pu1 nu1 cu1] 36)
            have r4 := row_lit1 w10 (.slice pu1 nu1 cu1)
            rw [eq4] at hw4 r4
            have z4 : w4.heap.size = w10.heap.size + 1 := by rw [← eq4, World.size_alloc]
            have k4 : ∀ i, i < w10.heap.size → w4.heap[i]? = w10.heap[i]? := fun i hi => by rw [← eq4, heap_al, if_neg (by omega)]
            have HMw4 := hid hw4; have R4 := hid r4; have Z4 := hid z4; have K4 := hid k4
            clear hw4 r4 z4 k4 eq4
            refine hK _ _ (.inr (.inr (HSG.out w4 HMw4.out.g))) ?_
            clear hK K
            refine wpHJ_only 5 (by kernel_rfl) rfl ?_
            intro K hK
            rw [if_pos (by simp [Region.wanted, yielded])]
            refine wpIn_apd hFa (.tmp 82) (.tmp 84) 29 rfl (w5.heap.size + 1) 36 (.slice none 0 0) 24 Tryd.underlying29 info_nlC rfl (.slice pa j ca) j _ rfl HMw4.out.oa (some ⟨w10.heap.size, 0, none⟩) 1 1 [.slice pu1 nu1 cu1] rfl rfl R4.out (by simp [Value.oneCell']) (by omega) (by unfold maxLen; omega) HMw4.out.sz ?_
            intro v5 w5a ho5 hg5 hv5
            simp only [Act.put, List.getElem_toArray, List.getElem_cons_succ, List.getElem_cons_zero, List.setIfInBounds_toArray, List.set_cons_zero, List.set_cons_succ]
            obtain ⟨p5, c5, rfl⟩ := owns_sliceL ho5
            have hms5 := HMw4.out.appA ho5 hg5 hv5
            have HMw5a := hid hms5; have G5 := hid hg5
            have lt5 : ∀ i, (Value.slice pa j ca).ownBlock = some i → i < wo.heap.size := fun i hi => (HMO.out.oa.lt i hi).2
            have LT5 := hid lt5
            clear hms5 ho5 hg5 hv5 lt5
            refine hK _ _ (.inr (.inr (HSG.out w5a HMw5a.out.g))) ?_
            clear hK K
            refine wpHJ_pure (v := ?vr10_12_40) 12 hFa rfl (by kernel_rfl) (fun _ _ _ h => h.elim) (Or.inl ⟨by rfl, ?yr10_12_40⟩) (.inr (HSG.out w5a HMw5a.out.g)) ?rr10_12_40
            case yr10_12_40 => (intro w' _; go_simp; try rfl)
            simp only [Act.put, List.getElem_toArray, List.getElem_cons_succ, List.getElem_cons_zero, List.setIfInBounds_toArray, List.set_cons_zero, List.set_cons_succ]
            refine wpHJ_pure (v := ?vr10_13_42) 13 hFa rfl (by kernel_rfl) (fun _ _ _ h => h.elim) (Or.inl ⟨by rfl, ?yr10_13_42⟩) (.inr (HSG.out w5a HMw5a.out.g)) ?rr10_13_42
            case yr10_13_42 => (intro w' _; go_simp; try rfl)
            simp only [Act.put, List.getElem_toArray, List.getElem_cons_succ, List.getElem_cons_zero, List.setIfInBounds_toArray, List.set_cons_zero, List.set_cons_succ]
            refine wpHJ_only 11 (by kernel_rfl) rfl ?_
            intro K hK
            rw [if_pos (by simp [Region.wanted, yielded])]
            refine wpIn_apd hFa (.tmp 88) (.tmp 90) 29 rfl (w5.heap.size + 1) 36 (.slice none 0 0) 24 Tryd.underlying29 info_nlC rfl (.slice pb j cb) j _ rfl HMw5a.out.ob (some ⟨wd.heap.size, 0, none⟩) 1 1 [.slice none 0 0] rfl rfl (row_kept (row_kept R10.out (K4.out _ (by rw [Z10.out]; omega))) (G5.out.block _ (by rw [Z4.out, Z10.out]; omega) (fun e => by have := LT5.out _ e.symm; have := HWD.out; omega))) (by simp [Value.oneCell']) (by omega) (by unfold maxLen; omega) HMw5a.out.sz ?_
            intro v11 w11 ho11 hg11 hv11
            simp only [Act.put, List.getElem_toArray, List.getElem_cons_succ, List.getElem_cons_zero, List.setIfInBounds_toArray, List.set_cons_zero, List.set_cons_succ]
            obtain ⟨p11, c11, rfl⟩ := owns_sliceL ho11
            have hms11 := HMw5a.out.appB ho11 hg11 hv11
            have HMw11 := hid hms11
            have y3 : w11.cell? ⟨w5.heap.size, 3, none⟩ = some (.slice pa j ca) := by rw [cell_of_row w11 _ 3 _ _ _ hms11.g]; rfl
            have y4 : w11.cell? ⟨w5.heap.size, 4, none⟩ = some (.slice pb j cb) := by rw [cell_of_row w11 _ 4 _ _ _ hms11.g]; rfl
            have e3 : w11.frozen? ⟨w5.heap.size, 3, none⟩ = false := frozen_of_row w11 _ 3 _ _ hms11.g
            have e4 : w11.frozen? ⟨w5.heap.size, 4, none⟩ = false := frozen_of_row w11 _ 4 _ _ hms11.g
            clear hms11 ho11 hg11 hv11
            refine hK _ _ (.inr (.inr (HSG.out w11 HMw11.out.g))) ?_
            clear hK K
            refine wpHJ_only 14 (by kernel_rfl) rfl ?_
            intro K hK
            go_simp
            refine hK _ _ (.inl rfl) ?_
            clear hK K
            refine wpHJ_pure (v := ?vr10_15_45) 15 hFa rfl (by kernel_rfl) (fun _ _ _ h => h.elim) (Or.inl ⟨by rfl, ?yr10_15_45⟩) (.inl rfl) ?rr10_15_45
            case yr10_15_45 => (intro w' _; go_simp; try rfl)
            simp only [Act.put, List.getElem_toArray, List.getElem_cons_succ, List.getElem_cons_zero, List.setIfInBounds_toArray, List.set_cons_zero, List.set_cons_succ]
            refine wpHJ_pure (v := ?vr10_16_46) 16 hFa rfl (by kernel_rfl) (fun _ _ _ h => h.elim) (Or.inl ⟨by rfl, ?yr10_16_46⟩) (.inl rfl) ?rr10_16_46
            case yr10_16_46 => (intro w' _; go_simp; try rfl)
            simp only [Act.put, List.getElem_toArray, List.getElem_cons_succ, List.getElem_cons_zero, List.setIfInBounds_toArray, List.set_cons_zero, List.set_cons_succ]
            refine wpHJ_only 17 (by kernel_rfl) rfl ?_
            intro K hK
            go_simp
            refine hK _ _ (.inr (.inl rfl)) ?_
            clear hK K
            refine wpHJ_done (by kernel_rfl) ?_ _
            simp only [onlyN, Exit.then]
            clear hFa
            go_wp2
            have hf := (HMw11.out.set 3 (.slice p5 (j + 1) c5)).set 4 (.slice p11 (j + 1) c11)
            have HF := hid hf
            clear hf y3 y4 e3 e4
            go_roundw
            case rel => exact ⟨j + 1, p5, c5, p11, c11, by omega, by go_num, by rw [RA.out, RB.out]; exact HF.out⟩
            case measure => simp [intOf]; omega
      · by_cases h2 : j < LB.length
        · have hrs1 := rowsU_succ us1 j
          rw [rowsU_out (by rw [HUL1.out]; omega)] at hrs1
          have hlt1 : decide ((j : Int) < (LA.length : Int)) = false := decide_eq_false (by omega)
          have hjn1 : ¬ j < LA.length := h1
          have RA := hid hrs1
          clear hrs1
          have hu2 : j < us2.length := by rw [HUL2.out]; exact h2
          obtain ⟨b2, o2, rfl, hR2, hcc2⟩ := HR2.out.at j hu2
          have hn2 := HX2.out j h2 hu2
          have hce2 := (World.cell?_of_block (a := ⟨b2, o2 + j, none⟩) (HMO.out.be.block b2 (HRL2.out b2 hR2))).trans (hcc2 j hu2)
          have hrs2 := rowsU_succ us2 j
          rw [rowsU_in hu2] at hrs2
          have hlt2 : decide ((j : Int) < (LB.length : Int)) = true := decide_eq_true (by omega)
          have hjn2 : j < LB.length := h2
          generalize us2[j] = v2 at *
          obtain ⟨pu2, cu2, rfl, cc2, cm2, _, _⟩ := hn2.op
          obtain ⟨nu2, hnu2⟩ : ∃ nu, (LB[j]).length = nu := ⟨_, rfl⟩
          rw [hnu2] at hce2 hrs2 cc2
          have RB := hid hrs2
          clear hrs2 hn2 hcc2 hnu2
          go_wp2_with fail
          have hFa : ∀ f, Fence.wide.fn f := fun _ => trivial
          refine (wpIn_wide (n := 9)).1 ?_
          refine wpIn_onlyN ?_
          refine wpIn_region_HJ (fun W' : World => W'.cell? ⟨w5.heap.size, 3, none⟩ = some (.slice pa j ca) ∧ W'.cell? ⟨w5.heap.size, 4, none⟩ = some (.slice pb j cb)) 14 (by kernel_rfl) ?_
          simp only [List.size_toArray, List.length_cons, List.length_nil, Nat.reduceAdd]
          refine wpHJ_pure (v := ?vr01_0_1) 0 hFa rfl (by kernel_rfl) (fun _ _ _ h => h.elim) (Or.inl ⟨by rfl, ?yr01_0_1⟩) (.inr hS) ?rr01_0_1
          case yr01_0_1 => (intro w' _; go_simp; try rfl)
          simp only [Act.put, List.getElem_toArray, List.getElem_cons_succ, List.getElem_cons_zero, List.setIfInBounds_toArray, List.set_cons_zero, List.set_cons_succ]
          refine wpHJ_pure (v := ?vr01_1_2) 1 hFa rfl (by kernel_rfl) (fun _ _ _ h => h.elim) (Or.inl ⟨by rfl, ?yr01_1_2⟩) (.inr hS) ?rr01_1_2
          case yr01_1_2 => (intro w' _; go_simp; try rfl)
          simp only [Act.put, List.getElem_toArray, List.getElem_cons_succ, List.getElem_cons_zero, List.setIfInBounds_toArray, List.set_cons_zero, List.set_cons_succ]
          refine wpHJ_take (v := ?vr01_2_3) 2 hFa rfl (by kernel_rfl) (fun _ _ _ h => h.elim) (Or.inl ⟨by rfl, ?yr01_2_3⟩) hS ?rr01_2_3
          case yr01_2_3 => (intro w' hS'; obtain ⟨s3, s4⟩ := hS'; go_simp; try rfl)
          simp only [Act.put, List.getElem_toArray, List.getElem_cons_succ, List.getElem_cons_zero, List.setIfInBounds_toArray, List.set_cons_zero, List.set_cons_succ]
          refine wpHJ_pure (v := ?vr01_3_4) 3 hFa rfl (by kernel_rfl) (fun _ _ _ h => h.elim) (Or.inl ⟨by rfl, ?yr01_3_4⟩) (.inr hS) ?rr01_3_4
          case yr01_3_4 => (intro w' _; go_simp; try rfl)
          simp only [Act.put, List.getElem_toArray, List.getElem_cons_succ, List.getElem_cons_zero, List.setIfInBounds_toArray, List.set_cons_zero, List.set_cons_succ]
          refine wpHJ_pure (v := ?vr01_6_6) 6 hFa rfl (by kernel_rfl) (fun _ _ _ h => h.elim) (Or.inl ⟨by rfl, ?yr01_6_6⟩) (.inr hS) ?rr01_6_6
          case yr01_6_6 => (intro w' _; go_simp; try rfl)
          simp only [Act.put, List.getElem_toArray, List.getElem_cons_succ, List.getElem_cons_zero, List.setIfInBounds_toArray, List.set_cons_zero, List.set_cons_succ]
          refine wpHJ_pure (v := ?vr01_7_8) 7 hFa rfl (by kernel_rfl) (fun _ _ _ h => h.elim) (Or.inl ⟨by rfl, ?yr01_7_8⟩) (.inr hS) ?rr01_7_8
          case yr01_7_8 => (intro w' _; go_simp; try rfl)
          simp only [Act.put, List.getElem_toArray, List.getElem_cons_succ, List.getElem_cons_zero, List.setIfInBounds_toArray, List.set_cons_zero, List.set_cons_succ]
          refine wpHJ_take (v := ?vr01_8_10) 8 hFa rfl (by kernel_rfl) (fun _ _ _ h => h.elim) (Or.inl ⟨by rfl, ?yr01_8_10⟩) hS ?rr01_8_10
          case yr01_8_10 => (intro w' hS'; obtain ⟨s3, s4⟩ := hS'; go_simp; try rfl)
          simp only [Act.put, List.getElem_toArray, List.getElem_cons_succ, List.getElem_cons_zero, List.setIfInBounds_toArray, List.set_cons_zero, List.set_cons_succ]
          refine wpHJ_pure (v := ?vr01_9_12) 9 hFa rfl (by kernel_rfl) (fun _ _ _ h => h.elim) (Or.inl ⟨by rfl, ?yr01_9_12⟩) (.inr hS) ?rr01_9_12
          case yr01_9_12 => (intro w' _; go_simp; try rfl)
          simp only [Act.put, List.getElem_toArray, List.getElem_cons_succ, List.getElem_cons_zero, List.setIfInBounds_toArray, List.set_cons_zero, List.set_cons_succ]
          clear hS
          have HWD := hid (show wo.drew.heap.size = wo.heap.size from rfl)
          have hmd := HMO.out.drew
          generalize wo.drew = wd at *
          have HMwd := hid hmd
          clear hmd
          refine wpHJ_both 4 10 (by kernel_rfl) rfl rfl ?_ ?_
          · intro K hK
            go_simp
            obtain ⟨w4, eq4⟩ : ∃ W, wd.alloc (.cells #[.slice none 0 0] 36) = W := ⟨_, rfl⟩
            rw [eq4]
            have hw4 := HMwd.out.alloc (.cells #[.slice none 0 0] 36)
            have r4 := row_lit1 wd (.slice none 0 0)
            rw [eq4] at hw4 r4
            have z4 : w4.heap.size = wd.heap.size + 1 := by rw [← eq4, World.size_alloc]
            have k4 : ∀ i, i < wd.heap.size → w4.heap[i]? = wd.heap[i]? := fun i hi => by rw [← eq4, heap_al, if_neg (by omega)]
            have HMw4 := hid hw4; have R4 := hid r4; have Z4 := hid z4; have K4 := hid k4
            clear hw4 r4 z4 k4 eq4
            refine hK _ _ (.inr (.inr (HSG.out w4 HMw4.out.g))) ?_
            clear hK K
            refine wpHJ_both 5 10 (by kernel_rfl) rfl rfl ?_ ?_
            · intro K hK
              rw [if_pos (by simp [Region.wanted, yielded])]
              refine wpIn_apd hFa (.tmp 82) (.tmp 84) 29 rfl (w5.heap.size + 1) 36 (.slice none 0 0) 24 Tryd.underlying29 info_nlC rfl (.slice pa j ca) j _ rfl HMw4.out.oa (some ⟨wd.heap.size, 0, none⟩) 1 1 [.slice none 0 0] rfl rfl R4.out (by simp [Value.oneCell']) (by omega) (by unfold maxLen; omega) HMw4.out.sz ?_
              intro v5 w5a ho5 hg5 hv5
              simp only [Act.put, List.getElem_toArray, List.getElem_cons_succ, List.getElem_cons_zero, List.setIfInBounds_toArray, List.set_cons_zero, List.set_cons_succ]
              obtain ⟨p5, c5, rfl⟩ := owns_sliceL ho5
              have hms5 := HMw4.out.appA ho5 hg5 hv5
              have HMw5a := hid hms5; have G5 := hid hg5
              have lt5 : ∀ i, (Value.slice pa j ca).ownBlock = some i → i < wo.heap.size := fun i hi => (HMO.out.oa.lt i hi).2
              have LT5 := hid lt5
              clear hms5 ho5 hg5 hv5 lt5
              refine hK _ _ (.inr (.inr (HSG.out w5a HMw5a.out.g))) ?_
              clear hK K
              refine wpHJ_pure (v := ?vr01_12_18) 12 hFa rfl (by kernel_rfl) (fun _ _ _ h => h.elim) (Or.inl ⟨by rfl, ?yr01_12_18⟩) (.inr (HSG.out w5a HMw5a.out.g)) ?rr01_12_18
              case yr01_12_18 => (intro w' _; go_simp; try rfl)
              simp only [Act.put, List.getElem_toArray, List.getElem_cons_succ, List.getElem_cons_zero, List.setIfInBounds_toArray, List.set_cons_zero, List.set_cons_succ]
              refine wpHJ_pure (v := ?vr01_13_20) 13 hFa rfl (by kernel_rfl) (fun _ _ _ h => h.elim) (Or.inl ⟨by rfl, ?yr01_13_20⟩) (.inr (HSG.out w5a HMw5a.out.g)) ?rr01_13_20
              case yr01_13_20 => (intro w' _; go_simp; try rfl)
              simp only [Act.put, List.getElem_toArray, List.getElem_cons_succ, List.getElem_cons_zero, List.setIfInBounds_toArray, List.set_cons_zero, List.set_cons_succ]
              refine wpHJ_only 10 (by kernel_rfl) rfl ?_
              intro K hK
              go_simp
              obtain ⟨w10, eq10⟩ : ∃ W, w5a.alloc (.cells #[.slice pu2 nu2 cu2] 36) = W := ⟨_, rfl⟩
              rw [eq10]
              have hw10 := HMw5a.out.alloc (.cells #[.slice pu2 nu2 cu2] 36)
              have r10 := row_lit1 w5a (.slice pu2 nu2 cu2)
              rw [eq10] at hw10 r10
              have z10 : w10.heap.size = w5a.heap.size + 1 := by rw [← eq10, World.size_alloc]
              have k10 : ∀ i, i < w5a.heap.size → w10.heap[i]? = w5a.heap[i]? := fun i hi => by rw [← eq10, heap_al, if_neg (by omega)]
              have HMw10 := hid hw10; have R10 := hid r10; have Z10 := hid z10; have K10 := hid k10
              clear hw10 r10 z10 k10 eq10
              refine hK _ _ (.inr (.inr (HSG.out w10 HMw10.out.g))) ?_
              clear hK K
              refine wpHJ_only 11 (by kernel_rfl) rfl ?_
              intro K hK
              rw [if_pos (by simp [Region.wanted, yielded])]
              refine wpIn_apd hFa (.tmp 88) (.tmp 90) 29 rfl (w5.heap.size + 1) 36 (.slice none 0 0) 24 Tryd.underlying29 info_nlC rfl (.slice pb j cb) j _ rfl HMw10.out.ob (some ⟨w5a.heap.size, 0, none⟩) 1 1 [.slice pu2 nu2 cu2] rfl rfl R10.out (by simp [Value.oneCell']) (by omega) (by unfold maxLen; omega) HMw10.out.sz ?_
              intro v11 w11 ho11 hg11 hv11
              simp only [Act.put, List.getElem_toArray, List.getElem_cons_succ, List.getElem_cons_zero, List.setIfInBounds_toArray, List.set_cons_zero, List.set_cons_succ]
              obtain ⟨p11, c11, rfl⟩ := owns_sliceL ho11
              have hms11 := HMw10.out.appB ho11 hg11 hv11
              have HMw11 := hid hms11
              have y3 : w11.cell? ⟨w5.heap.size, 3, none⟩ = some (.slice pa j ca) := by rw [cell_of_row w11 _ 3 _ _ _ hms11.g]; rfl
              have y4 : w11.cell? ⟨w5.heap.size, 4, none⟩ = some (.slice pb j cb) := by rw [cell_of_row w11 _ 4 _ _ _ hms11.g]; rfl
              have e3 : w11.frozen? ⟨w5.heap.size, 3, none⟩ = false := frozen_of_row w11 _ 3 _ _ hms11.g
              have e4 : w11.frozen? ⟨w5.heap.size, 4, none⟩ = false := frozen_of_row w11 _ 4 _ _ hms11.g
              clear hms11 ho11 hg11 hv11
              refine hK _ _ (.inr (.inr (HSG.out w11 HMw11.out.g))) ?_
              clear hK K
              refine wpHJ_only 14 (by kernel_rfl) rfl ?_
              intro K hK
              go_simp
              refine hK _ _ (.inl rfl) ?_
              clear hK K
              refine wpHJ_pure (v := ?vr01_15_24) 15 hFa rfl (by kernel_rfl) (fun _ _ _ h => h.elim) (Or.inl ⟨by rfl, ?yr01_15_24⟩) (.inl rfl) ?rr01_15_24
              case yr01_15_24 => (intro w' _; go_simp; try rfl)
              simp only [Act.put, List.getElem_toArray, List.getElem_cons_succ, List.getElem_cons_zero, List.setIfInBounds_toArray, List.set_cons_zero, List.set_cons_succ]
              refine wpHJ_pure (v := ?vr01_16_25) 16 hFa rfl (by kernel_rfl) (fun _ _ _ h => h.elim) (Or.inl ⟨by rfl, ?yr01_16_25⟩) (.inl rfl) ?rr01_16_25
              case yr01_16_25 => (intro w' _; go_simp; try rfl)
              simp only [Act.put, List.getElem_toArray, List.getElem_cons_succ, List.getElem_cons_zero, List.setIfInBounds_toArray, List.set_cons_zero, List.set_cons_succ]
              refine wpHJ_only 17 (by kernel_rfl) rfl ?_
              intro K hK
              go_simp
              refine hK _ _ (.inr (.inl rfl)) ?_
              clear hK K
              refine wpHJ_done (by kernel_rfl) ?_ _
              simp only [onlyN, Exit.then]
              clear hFa
              go_wp2
              have hf := (HMw11.out.set 3 (.slice p5 (j + 1) c5)).set 4 (.slice p11 (j + 1) c11)
              have HF := hid hf
              clear hf y3 y4 e3 e4
              go_roundw
              case rel => exact ⟨j + 1, p5, c5, p11, c11, by omega, by go_num, by rw [RA.out, RB.out]; exact HF.out⟩
              case measure => simp [intOf]; omega
            · intro K hK
              go_simp
              obtain ⟨w10, eq10⟩ : ∃ W, w4.alloc (.cells #[.slice pu2 nu2 cu2] 36) = W := ⟨_, rfl⟩
              rw [eq10]
              have hw10 := HMw4.out.alloc (.cells #[.slice pu2 nu2 cu2] 36)
              have r10 := row_lit1 w4 (.slice pu2 nu2 cu2)
              rw [eq10] at hw10 r10
              have z10 : w10.heap.size = w4.heap.size + 1 := by rw [← eq10, World.size_alloc]
              have k10 : ∀ i, i < w4.heap.size → w10.heap[i]? = w4.heap[i]? := fun i hi => by rw [← eq10, heap_al, if_neg (by omega)]
              have HMw10 := hid hw10; have R10 := hid r10; have Z10 := hid z10; have K10 := hid k10
              clear hw10 r10 z10 k10 eq10
              refine hK _ _ (.inr (.inr (HSG.out w10 HMw10.out.g))) ?_
              clear hK K
              refine wpHJ_only 5 (by kernel_rfl) rfl ?_
              intro K hK
              rw [if_pos (by simp [Region.wanted, yielded])]
              refine wpIn_apd hFa (.tmp 82) (.tmp 84) 29 rfl (w5.heap.size + 1) 36 (.slice none 0 0) 24 Tryd.underlying29 info_nlC rfl (.slice pa j ca) j _ rfl HMw10.out.oa (some ⟨wd.heap.size, 0, none⟩) 1 1 [.slice none 0 0] rfl rfl (row_kept R4.out (K10.out _ (by rw [Z4.out]; omega))) (by simp [Value.oneCell']) (by omega) (by unfold maxLen; omega) HMw10.out.sz ?_
              intro v5 w5a ho5 hg5 hv5
              simp only [Act.put, List.getElem_toArray, List.getElem_cons_succ, List.getElem_cons_zero, List.setIfInBounds_toArray, List.set_cons_zero, List.set_cons_succ]
              obtain ⟨p5, c5, rfl⟩ := owns_sliceL ho5
              have hms5 := HMw10.out.appA ho5 hg5 hv5
              have HMw5a := hid hms5; have G5 := hid hg5
              have lt5 : ∀ i, (Value.slice pa j ca).ownBlock = some i → i < wo.heap.size := fun i hi => (HMO.out.oa.lt i hi).2
              have LT5 := hid lt5
              clear hms5 ho5 hg5 hv5 lt5
              refine hK _ _ (.inr (.inr (HSG.out w5a HMw5a.out.g))) ?_
              clear hK K
              refine wpHJ_pure (v := ?vr01_12_29) 12 hFa rfl (by kernel_rfl) (fun _ _ _ h => h.elim) (Or.inl ⟨by rfl, ?yr01_12_29⟩) (.inr (HSG.out w5a HMw5a.out.g)) ?rr01_12_29
              case yr01_12_29 => (intro w' _; go_simp; try rfl)
              simp only [Act.put, List.getElem_toArray, List.getElem_cons_succ, List.getElem_cons_zero, List.setIfInBounds_toArray, List.set_cons_zero, List.set_cons_succ]
              refine wpHJ_pure (v := ?vr01_13_31) 13 hFa rfl (by kernel_rfl) (fun _ _ _ h => h.elim) (Or.inl ⟨by rfl, ?yr01_13_31⟩) (.inr (HSG.out w5a HMw5a.out.g)) ?rr01_13_31
              case yr01_13_31 => (intro w' _; go_simp; try rfl)
              simp only [Act.put, List.getElem_toArray, List.getElem_cons_succ, List.getElem_cons_zero, List.setIfInBounds_toArray, List.set_cons_zero, List.set_cons_succ]
              refine wpHJ_only 11 (by kernel_rfl) rfl ?_
              intro K hK
              rw [if_pos (by simp [Region.wanted, yielded])]
              refine wpIn_apd hFa (.tmp 88) (.tmp 90) 29 rfl (w5.heap.size + 1) 36 (.slice none 0 0) 24 Tryd.underlying29 info_nlC rfl (.slice pb j cb) j _ rfl HMw5a.out.ob (some ⟨w4.heap.size, 0, none⟩) 1 1 [.slice pu2 nu2 cu2] rfl rfl (row_kept R10.out (G5.out.block _ (by rw [Z10.out]; omega) (fun e => by have := LT5.out _ e.symm; have := Z4.out; have := HWD.out; omega))) (by simp [Value.oneCell']) (by omega) (by unfold maxLen; omega) HMw5a.out.sz ?_
              intro v11 w11 ho11 hg11 hv11
              simp only [Act.put, List.getElem_toArray, List.getElem_cons_succ, List.getElem_cons_zero, List.setIfInBounds_toArray, List.set_cons_zero, List.set_cons_succ]
              obtain ⟨p11, c11, rfl⟩ := owns_sliceL ho11
              have hms11 := HMw5a.out.appB ho11 hg11 hv11
              have HMw11 := hid hms11
              have y3 : w11.cell? ⟨w5.heap.size, 3, none⟩ = some (.slice pa j ca) := by rw [cell_of_row w11 _ 3 _ _ _ hms11.g]; rfl
              have y4 : w11.cell? ⟨w5.heap.size, 4, none⟩ = some (.slice pb j cb) := by rw [cell_of_row w11 _ 4 _ _ _ hms11.g]; rfl
              have e3 : w11.frozen? ⟨w5.heap.size, 3, none⟩ = false := frozen_of_row w11 _ 3 _ _ hms11.g
              have e4 : w11.frozen? ⟨w5.heap.size, 4, none⟩ = false := frozen_of_row w11 _ 4 _ _ hms11.g
              clear hms11 ho11 hg11 hv11
              refine hK _ _ (.inr (.inr (HSG.out w11 HMw11.out.g))) ?_
              clear hK K
              refine wpHJ_only 14 (by kernel_rfl) rfl ?_
              intro K hK
              go_simp
              refine hK _ _ (.inl rfl) ?_
              clear hK K
              refine wpHJ_pure (v := ?vr01_15_34) 15 hFa rfl (by kernel_rfl) (fun _ _ _ h => h.elim) (Or.inl ⟨by rfl, ?yr01_15_34⟩) (.inl rfl) ?rr01_15_34
              case yr01_15_34 => (intro w' _; go_simp; try rfl)
              simp only [Act.put, List.getElem_toArray, List.getElem_cons_succ, List.getElem_cons_zero, List.setIfInBounds_toArray, List.set_cons_zero, List.set_cons_succ]
              refine wpHJ_pure (v := ?vr01_16_35) 16 hFa rfl (by kernel_rfl) (fun _ _ _ h => h.elim) (Or.inl ⟨by rfl, ?yr01_16_35⟩) (.inl rfl) ?rr01_16_35
              case yr01_16_35 => (intro w' _; go_simp; try rfl)
              simp only [Act.put, List.getElem_toArray, List.getElem_cons_succ, List.getElem_cons_zero, List.setIfInBounds_toArray, List.set_cons_zero, List.set_cons_succ]
              refine wpHJ_only 17 (by kernel_rfl) rfl ?_
              intro K hK
              go_simp
              refine hK _ _ (.inr (.inl rfl)) ?_
              clear hK K
              refine wpHJ_done (by kernel_rfl) ?_ _
              simp only [onlyN, Exit.then]
              clear hFa
              go_wp2
              have hf := (HMw11.out.set 3 (.slice p5 (j + 1) c5)).set 4 (.slice p11 (j + 1) c11)
              have HF := hid hf
              clear hf y3 y4 e3 e4
              go_roundw
              case rel => exact ⟨j + 1, p5, c5, p11, c11, by omega, by go_num, by rw [RA.out, RB.out]; exact HF.out⟩
              case measure => simp [intOf]; omega
          · intro K hK
            go_simp
            obtain ⟨w10, eq10⟩ : ∃ W, wd.alloc (.cells #[.slice pu2 nu2 cu2] 36) = W := ⟨_, rfl⟩
            rw [eq10]
            have hw10 := HMwd.out.alloc (.cells #[.slice pu2 nu2 cu2] 36)
            have r10 := row_lit1 wd (.slice pu2 nu2 cu2)
            rw [eq10] at hw10 r10
            have z10 : w10.heap.size = wd.heap.size + 1 := by rw [← eq10, World.size_alloc]
            have k10 : ∀ i, i < wd.heap.size → w10.heap[i]? = wd.heap[i]? := fun i hi => by rw [← eq10, heap_al, if_neg (by omega)]
            have HMw10 := hid hw10; have R10 := hid r10; have Z10 := hid z10; have K10 := hid k10
            clear hw10 r10 z10 k10 eq10
            refine hK _ _ (.inr (.inr (HSG.out w10 HMw10.out.g))) ?_
            clear hK K
            refine wpHJ_only 4 (by kernel_rfl) rfl ?_
            intro K hK
            go_simp
            obtain ⟨w4, eq4⟩ : ∃ W, w10.alloc (.cells #[.slice none 0 0] 36) = W := ⟨_, rfl⟩
            rw [eq4]
            have hw4 := HMw10.out.alloc (.cells #[.slice none 0 0] 36)
            have r4 := row_lit1 w10 (.slice none 0 0)
            rw [eq4] at hw4 r4
            have z4 : w4.heap.size = w10.heap.size + 1 := by rw [← eq4, World.size_alloc]
            have k4 : ∀ i, i < w10.heap.size → w4.heap[i]? = w10.heap[i]? := fun i hi => by rw [← eq4, heap_al, if_neg (by omega)]
            have HMw4 := hid hw4; have R4 := hid r4; have Z4 := hid z4; have K4 := hid k4
            clear hw4 r4 z4 k4 eq4
            refine hK _ _ (.inr (.inr (HSG.out w4 HMw4.out.g))) ?_
            clear hK K
            refine wpHJ_only 5 (by kernel_rfl) rfl ?_
            intro K hK
            rw [if_pos (by simp [Region.wanted, yielded])]
            refine wpIn_apd hFa (.tmp 82) (.tmp 84) 29 rfl (w5.heap.size + 1) 36 (.slice none 0 0) 24 Tryd.underlying29 info_nlC rfl (.slice pa j ca) j _ rfl HMw4.out.oa (some ⟨w10.heap.size, 0, none⟩) 1 1 [.slice none 0 0] rfl rfl R4.out (by simp [Value.oneCell']) (by omega) (by unfold maxLen; omega) HMw4.out.sz ?_
            intro v5 w5a ho5 hg5 hv5
            simp only [Act.put, List.getElem_toArray, List.getElem_cons_succ, List.getElem_cons_zero, List.setIfInBounds_toArray, List.set_cons_zero, List.set_cons_succ]
            obtain ⟨p5, c5, rfl⟩ := owns_sliceL ho5
            have hms5 := HMw4.out.appA ho5 hg5 hv5
            have HMw5a := hid hms5; have G5 := hid hg5
            have lt5 : ∀ i, (Value.slice pa j ca).ownBlock = some i → i < wo.heap.size := fun i hi => (HMO.out.oa.lt i hi).2
            have LT5 := hid lt5
            clear hms5 ho5 hg5 hv5 lt5
            refine hK _ _ (.inr (.inr (HSG.out w5a HMw5a.out.g))) ?_
            clear hK K
            refine wpHJ_pure (v := ?vr01_12_40) 12 hFa rfl (by kernel_rfl) (fun _ _ _ h => h.elim) (Or.inl ⟨by rfl, ?yr01_12_40⟩) (.inr (HSG.out w5a HMw5a.out.g)) ?rr01_12_40
            case yr01_12_40 => (intro w' _; go_simp; try rfl)
            simp only [Act.put, List.getElem_toArray, List.getElem_cons_succ, List.getElem_cons_zero, List.setIfInBounds_toArray, List.set_cons_zero, List.set_cons_succ]
            refine wpHJ_pure (v := ?vr01_13_42) 13 hFa rfl (by kernel_rfl) (fun _ _ _ h => h.elim) (Or.inl ⟨by rfl, ?yr01_13_42⟩) (.inr (HSG.out w5a HMw5a.out.g)) ?rr01_13_42
            case yr01_13_42 => (intro w' _; go_simp; try rfl)
            simp only [Act.put, List.getElem_toArray, List.getElem_cons_succ, List.getElem_cons_zero, List.setIfInBounds_toArray, List.set_cons_zero, List.set_cons_succ]
            refine wpHJ_only 11 (by kernel_rfl) rfl ?_
            intro K hK
            rw [if_pos (by simp [Region.wanted, yielded])]
            refine wpIn_apd hFa (.tmp 88) (.tmp 90) 29 rfl (w5.heap.size + 1) 36 (.slice none 0 0) 24 Tryd.underlying29 info_nlC rfl (.slice pb j cb) j _ rfl HMw5a.out.ob (some ⟨wd.heap.size, 0, none⟩) 1 1 [.slice pu2 nu2 cu2] rfl rfl (row_kept (row_kept R10.out (K4.out _ (by rw [Z10.out]; omega))) (G5.out.block _ (by rw [Z4.out, Z10.out]; omega) (fun e => by have := LT5.out _ e.symm; have := HWD.out; omega))) (by simp [Value.oneCell']) (by omega) (by unfold maxLen; omega) HMw5a.out.sz ?_
            intro v11 w11 ho11 hg11 hv11
            simp only [Act.put, List.getElem_toArray, List.getElem_cons_succ, List.getElem_cons_zero, List.setIfInBounds_toArray, List.set_cons_zero, List.set_cons_succ]
            obtain ⟨p11, c11, rfl⟩ := owns_sliceL ho11
            have hms11 := HMw5a.out.appB ho11 hg11 hv11
            have HMw11 := hid hms11
            have y3 : w11.cell? ⟨w5.heap.size, 3, none⟩ = some (.slice pa j ca) := by rw [cell_of_row w11 _ 3 _ _ _ hms11.g]; rfl
            have y4 : w11.cell? ⟨w5.heap.size, 4, none⟩ = some (.slice pb j cb) := by rw [cell_of_row w11 _ 4 _ _ _ hms11.g]; rfl
            have e3 : w11.frozen? ⟨w5.heap.size, 3, none⟩ = false := frozen_of_row w11 _ 3 _ _ hms11.g
            have e4 : w11.frozen? ⟨w5.heap.size, 4, none⟩ = false := frozen_of_row w11 _ 4 _ _ hms11.g
            clear hms11 ho11 hg11 hv11
            refine hK _ _ (.inr (.inr (HSG.out w11 HMw11.out.g))) ?_
            clear hK K
            refine wpHJ_only 14 (by kernel_rfl) rfl ?_
            intro K hK
            go_simp
            refine hK _ _ (.inl rfl) ?_
            clear hK K
            refine wpHJ_pure (v := ?vr01_15_45) 15 hFa rfl (by kernel_rfl) (fun _ _ _ h => h.elim) (Or.inl ⟨by rfl, ?yr01_15_45⟩) (.inl rfl) ?rr01_15_45
            case yr01_15_45 => (intro w' _; go_simp; try rfl)
            simp only [Act.put, List.getElem_toArray, List.getElem_cons_succ, List.getElem_cons_zero, List.setIfInBounds_toArray, List.set_cons_zero, List.set_cons_succ]
            refine wpHJ_pure (v := ?vr01_16_46) 16 hFa rfl (by kernel_rfl) (fun _ _ _ h => h.elim) (Or.inl ⟨by rfl, ?yr01_16_46⟩) (.inl rfl) ?rr01_16_46
            case yr01_16_46 => (intro w' _; go_simp; try rfl)
            simp only [Act.put, List.getElem_toArray, List.getElem_cons_succ, List.getElem_cons_zero, List.setIfInBounds_toArray, List.set_cons_zero, List.set_cons_succ]
            refine wpHJ_only 17 (by kernel_rfl) rfl ?_
            intro K hK
            go_simp
            refine hK _ _ (.inr (.inl rfl)) ?_
            clear hK K
            refine wpHJ_done (by kernel_rfl) ?_ _
            simp only [onlyN, Exit.then]
            clear hFa
            go_wp2
            have hf := (HMw11.out.set 3 (.slice p5 (j + 1) c5)).set 4 (.slice p11 (j + 1) c11)
            have HF := hid hf
            clear hf y3 y4 e3 e4
            go_roundw
            case rel => exact ⟨j + 1, p5, c5, p11, c11, by omega, by go_num, by rw [RA.out, RB.out]; exact HF.out⟩
            case measure => simp [intOf]; omega
        · have hrs1 := rowsU_succ us1 j
          rw [rowsU_out (by rw [HUL1.out]; omega)] at hrs1
          have hlt1 : decide ((j : Int) < (LA.length : Int)) = false := decide_eq_false (by omega)
          have hjn1 : ¬ j < LA.length := h1
          have RA := hid hrs1
          clear hrs1
          have hrs2 := rowsU_succ us2 j
          rw [rowsU_out (by rw [HUL2.out]; omega)] at hrs2
          have hlt2 : decide ((j : Int) < (LB.length : Int)) = false := decide_eq_false (by omega)
          have hjn2 : ¬ j < LB.length := h2
          have RB := hid hrs2
          clear hrs2
          go_wp2_with fail
          have hFa : ∀ f, Fence.wide.fn f := fun _ => trivial
          refine (wpIn_wide (n := 9)).1 ?_
          refine wpIn_onlyN ?_
          refine wpIn_region_HJ (fun W' : World => W'.cell? ⟨w5.heap.size, 3, none⟩ = some (.slice pa j ca) ∧ W'.cell? ⟨w5.heap.size, 4, none⟩ = some (.slice pb j cb)) 14 (by kernel_rfl) ?_
          simp only [List.size_toArray, List.length_cons, List.length_nil, Nat.reduceAdd]
          refine wpHJ_pure (v := ?vr00_0_1) 0 hFa rfl (by kernel_rfl) (fun _ _ _ h => h.elim) (Or.inl ⟨by rfl, ?yr00_0_1⟩) (.inr hS) ?rr00_0_1
          case yr00_0_1 => (intro w' _; go_simp; try rfl)
          simp only [Act.put, List.getElem_toArray, List.getElem_cons_succ, List.getElem_cons_zero, List.setIfInBounds_toArray, List.set_cons_zero, List.set_cons_succ]
          refine wpHJ_pure (v := ?vr00_1_2) 1 hFa rfl (by kernel_rfl) (fun _ _ _ h => h.elim) (Or.inl ⟨by rfl, ?yr00_1_2⟩) (.inr hS) ?rr00_1_2
          case yr00_1_2 => (intro w' _; go_simp; try rfl)
          simp only [Act.put, List.getElem_toArray, List.getElem_cons_succ, List.getElem_cons_zero, List.setIfInBounds_toArray, List.set_cons_zero, List.set_cons_succ]
          refine wpHJ_take (v := ?vr00_2_3) 2 hFa rfl (by kernel_rfl) (fun _ _ _ h => h.elim) (Or.inl ⟨by rfl, ?yr00_2_3⟩) hS ?rr00_2_3
          case yr00_2_3 => (intro w' hS'; obtain ⟨s3, s4⟩ := hS'; go_simp; try rfl)
          simp only [Act.put, List.getElem_toArray, List.getElem_cons_succ, List.getElem_cons_zero, List.setIfInBounds_toArray, List.set_cons_zero, List.set_cons_succ]
          refine wpHJ_pure (v := ?vr00_3_4) 3 hFa rfl (by kernel_rfl) (fun _ _ _ h => h.elim) (Or.inl ⟨by rfl, ?yr00_3_4⟩) (.inr hS) ?rr00_3_4
          case yr00_3_4 => (intro w' _; go_simp; try rfl)
          simp only [Act.put, List.getElem_toArray, List.getElem_cons_succ, List.getElem_cons_zero, List.setIfInBounds_toArray, List.set_cons_zero, List.set_cons_succ]
          refine wpHJ_pure (v := ?vr00_6_6) 6 hFa rfl (by kernel_rfl) (fun _ _ _ h => h.elim) (Or.inl ⟨by rfl, ?yr00_6_6⟩) (.inr hS) ?rr00_6_6
          case yr00_6_6 => (intro w' _; go_simp; try rfl)
          simp only [Act.put, List.getElem_toArray, List.getElem_cons_succ, List.getElem_cons_zero, List.setIfInBounds_toArray, List.set_cons_zero, List.set_cons_succ]
          refine wpHJ_pure (v := ?vr00_7_8) 7 hFa rfl (by kernel_rfl) (fun _ _ _ h => h.elim) (Or.inl ⟨by rfl, ?yr00_7_8⟩) (.inr hS) ?rr00_7_8
          case yr00_7_8 => (intro w' _; go_simp; try rfl)
          simp only [Act.put, List.getElem_toArray, List.getElem_cons_succ, List.getElem_cons_zero, List.setIfInBounds_toArray, List.set_cons_zero, List.set_cons_succ]
          refine wpHJ_take (v := ?vr00_8_10) 8 hFa rfl (by kernel_rfl) (fun _ _ _ h => h.elim) (Or.inl ⟨by rfl, ?yr00_8_10⟩) hS ?rr00_8_10
          case yr00_8_10 => (intro w' hS'; obtain ⟨s3, s4⟩ := hS'; go_simp; try rfl)
          simp only [Act.put, List.getElem_toArray, List.getElem_cons_succ, List.getElem_cons_zero, List.setIfInBounds_toArray, List.set_cons_zero, List.set_cons_succ]
          refine wpHJ_pure (v := ?vr00_9_12) 9 hFa rfl (by kernel_rfl) (fun _ _ _ h => h.elim) (Or.inl ⟨by rfl, ?yr00_9_12⟩) (.inr hS) ?rr00_9_12
          case yr00_9_12 => (intro w' _; go_simp; try rfl)
          simp only [Act.put, List.getElem_toArray, List.getElem_cons_succ, List.getElem_cons_zero, List.setIfInBounds_toArray, List.set_cons_zero, List.set_cons_succ]
          clear hS
          have HWD := hid (show wo.drew.heap.size = wo.heap.size from rfl)
          have hmd := HMO.out.drew
          generalize wo.drew = wd at *
          have HMwd := hid hmd
          clear hmd
          refine wpHJ_both 4 10 (by kernel_rfl) rfl rfl ?_ ?_
          · intro K hK
            go_simp
            obtain ⟨w4, eq4⟩ : ∃ W, wd.alloc (.cells #[.slice none 0 0] 36) = W := ⟨_, rfl⟩
            rw [eq4]
            have hw4 := HMwd.out.alloc (.cells #[.slice none 0 0] 36)
            have r4 := row_lit1 wd (.slice none 0 0)
            rw [eq4] at hw4 r4
            have z4 : w4.heap.size = wd.heap.size + 1 := by rw [← eq4, World.size_alloc]
            have k4 : ∀ i, i < wd.heap.size → w4.heap[i]? = wd.heap[i]? := fun i hi => by rw [← eq4, heap_al, if_neg (by omega)]
            have HMw4 := hid hw4; have R4 := hid r4; have Z4 := hid z4; have K4 := hid k4
            clear hw4 r4 z4 k4 eq4
            refine hK _ _ (.inr (.inr (HSG.out w4 HMw4.out.g))) ?_
            clear hK K
            refine wpHJ_both 5 10 (by kernel_rfl) rfl rfl ?_ ?_
            · intro K hK
              rw [if_pos (by simp [Region.wanted, yielded])]
              refine wpIn_apd hFa (.tmp 82) (.tmp 84) 29 rfl (w5.heap.size + 1) 36 (.slice none 0 0) 24 Tryd.underlying29 info_nlC rfl (.slice pa j ca) j _ rfl HMw4.out.oa (some ⟨wd.heap.size, 0, none⟩) 1 1 [.slice none 0 0] rfl rfl R4.out (by simp [Value.oneCell']) (by omega) (by unfold maxLen; omega) HMw4.out.sz ?_
              intro v5 w5a ho5 hg5 hv5
              simp only [Act.put, List.getElem_toArray, List.getElem_cons_succ, List.getElem_cons_zero, List.setIfInBounds_toArray, List.set_cons_zero, List.set_cons_succ]
              obtain ⟨p5, c5, rfl⟩ := owns_sliceL ho5
              have hms5 := HMw4.out.appA ho5 hg5 hv5
              have HMw5a := hid hms5; have G5 := hid hg5
              have lt5 : ∀ i, (Value.slice pa j ca).ownBlock = some i → i < wo.heap.size := fun i hi => (HMO.out.oa.lt i hi).2
              have LT5 := hid lt5
              clear hms5 ho5 hg5 hv5 lt5
              refine hK _ _ (.inr (.inr (HSG.out w5a HMw5a.out.g))) ?_
              clear hK K
              refine wpHJ_pure (v := ?vr00_12_18) 12 hFa rfl (by kernel_rfl) (fun _ _ _ h => h.elim) (Or.inl ⟨by rfl, ?yr00_12_18⟩) (.inr (HSG.out w5a HMw5a.out.g)) ?rr00_12_18
              case yr00_12_18 => (intro w' _; go_simp; try rfl)
              simp only [Act.put, List.getElem_toArray, List.getElem_cons_succ, List.getElem_cons_zero, List.setIfInBounds_toArray, List.set_cons_zero, List.set_cons_succ]
              refine wpHJ_pure (v := ?vr00_13_20) 13 hFa rfl (by kernel_rfl) (fun _ _ _ h => h.elim) (Or.inl ⟨by rfl, ?yr00_13_20⟩) (.inr (HSG.out w5a HMw5a.out.g)) ?rr00_13_20
              case yr00_13_20 => (intro w' _; go_simp; try rfl)
              simp only [Act.put, List.getElem_toArray, List.getElem_cons_succ, List.getElem_cons_zero, List.setIfInBounds_toArray, List.set_cons_zero, List.set_cons_succ]
              refine wpHJ_only 10 (by kernel_rfl) rfl ?_
              intro K hK
              go_simp
              obtain ⟨w10, eq10⟩ : ∃ W, w5a.alloc (.cells #[.slice none 0 0] 36) = W := ⟨_, rfl⟩
              rw [eq10]
              have hw10 := HMw5a.out.alloc (.cells #[.slice none 0 0] 36)
              have r10 := row_lit1 w5a (.slice none 0 0)
              rw [eq10] at hw10 r10
              have z10 : w10.heap.size = w5a.heap.size + 1 := by rw [← eq10, World.size_alloc]
              have k10 : ∀ i, i < w5a.heap.size → w10.heap[i]? = w5a.heap[i]? := fun i hi => by rw [← eq10, heap_al, if_neg (by omega)]
              have HMw10 := hid hw10; have R10 := hid r10; have Z10 := hid z10; have K10 := hid k10
              clear hw10 r10 z10 k10 eq10
              refine hK _ _ (.inr (.inr (HSG.out w10 HMw10.out.g))) ?_
              clear hK K
              refine wpHJ_only 11 (by kernel_rfl) rfl ?_
              intro K hK
              rw [if_pos (by simp [Region.wanted, yielded])]
              refine wpIn_apd hFa (.tmp 88) (.tmp 90) 29 rfl (w5.heap.size + 1) 36 (.slice none 0 0) 24 Tryd.underlying29 info_nlC rfl (.slice pb j cb) j _ rfl HMw10.out.ob (some ⟨w5a.heap.size, 0, none⟩) 1 1 [.slice none 0 0] rfl rfl R10.out (by simp [Value.oneCell']) (by omega) (by unfold maxLen; omega) HMw10.out.sz ?_
              intro v11 w11 ho11 hg11 hv11
              simp only [Act.put, List.getElem_toArray, List.getElem_cons_succ, List.getElem_cons_zero, List.setIfInBounds_toArray, List.set_cons_zero, List.set_cons_succ]
              obtain ⟨p11, c11, rfl⟩ := owns_sliceL ho11
              have hms11 := HMw10.out.appB ho11 hg11 hv11
              have HMw11 := hid hms11
              have y3 : w11.cell? ⟨w5.heap.size, 3, none⟩ = some (.slice pa j ca) := by rw [cell_of_row w11 _ 3 _ _ _ hms11.g]; rfl
              have y4 : w11.cell? ⟨w5.heap.size, 4, none⟩ = some (.slice pb j cb) := by rw [cell_of_row w11 _ 4 _ _ _ hms11.g]; rfl
              have e3 : w11.frozen? ⟨w5.heap.size, 3, none⟩ = false := frozen_of_row w11 _ 3 _ _ hms11.g
              have e4 : w11.frozen? ⟨w5.heap.size, 4, none⟩ = false := frozen_of_row w11 _ 4 _ _ hms11.g
              clear hms11 ho11 hg11 hv11
              refine hK _ _ (.inr (.inr (HSG.out w11 HMw11.out.g))) ?_
              clear hK K
              refine wpHJ_only 14 (by kernel_rfl) rfl ?_
              intro K hK
              go_simp
              refine hK _ _ (.inl rfl) ?_
              clear hK K
              refine wpHJ_pure (v := ?vr00_15_24) 15 hFa rfl (by kernel_rfl) (fun _ _ _ h => h.elim) (Or.inl ⟨by rfl, ?yr00_15_24⟩) (.inl rfl) ?rr00_15_24
              case yr00_15_24 => (intro w' _; go_simp; try rfl)
              simp only [Act.put, List.getElem_toArray, List.getElem_cons_succ, List.getElem_cons_zero, List.setIfInBounds_toArray, List.set_cons_zero, List.set_cons_succ]
              refine wpHJ_pure (v := ?vr00_16_25) 16 hFa rfl (by kernel_rfl) (fun _ _ _ h => h.elim) (Or.inl ⟨by rfl, ?yr00_16_25⟩) (.inl rfl) ?rr00_16_25
              case yr00_16_25 => (intro w' _; go_simp; try rfl)
              simp only [Act.put, List.getElem_toArray, List.getElem_cons_succ, List.getElem_cons_zero, List.setIfInBounds_toArray, List.set_cons_zero, List.set_cons_succ]
              refine wpHJ_only 17 (by kernel_rfl) rfl ?_
              intro K hK
              go_simp
              refine hK _ _ (.inr (.inl rfl)) ?_
              clear hK K
              refine wpHJ_done (by kernel_rfl) ?_ _
              simp only [onlyN, Exit.then]
              clear hFa
              go_wp2
              have hf := (HMw11.out.set 3 (.slice p5 (j + 1) c5)).set 4 (.slice p11 (j + 1) c11)
              have HF := hid hf
              clear hf y3 y4 e3 e4
              go_roundw
              case rel => exact ⟨j + 1, p5, c5, p11, c11, by omega, by go_num, by rw [RA.out, RB.out]; exact HF.out⟩
              case measure => simp [intOf]; omega
            · intro K hK
              go_simp
              obtain ⟨w10, eq10⟩ : ∃ W, w4.alloc (.cells #[.slice none 0 0] 36) = W := ⟨_, rfl⟩
              rw [eq10]
              have hw10 := HMw4.out.alloc (.cells #[.slice none 0 0] 36)
              have r10 := row_lit1 w4 (.slice none 0 0)
              rw [eq10] at hw10 r10
              have z10 : w10.heap.size = w4.heap.size + 1 := by rw [← eq10, World.size_alloc]
              have k10 : ∀ i, i < w4.heap.size → w10.heap[i]? = w4.heap[i]? := fun i hi => by rw [← eq10, heap_al, if_neg (by omega)]
              have HMw10 := hid hw10; have R10 := hid r10; have Z10 := hid z10; have K10 := hid k10
              clear hw10 r10 z10 k10 eq10
              refine hK _ _ (.inr (.inr (HSG.out w10 HMw10.out.g))) ?_
              clear hK K
              refine wpHJ_only 5 (by kernel_rfl) rfl ?_
              intro K hK
              rw [if_pos (by simp [Region.wanted, yielded])]
              refine wpIn_apd hFa (.tmp 82) (.tmp 84) 29 rfl (w5.heap.size + 1) 36 (.slice none 0 0) 24 Tryd.underlying29 info_nlC rfl (.slice pa j ca) j _ rfl HMw10.out.oa (some ⟨wd.heap.size, 0, none⟩) 1 1 [.slice none 0 0] rfl rfl (row_kept R4.out (K10.out _ (by rw [Z4.out]; omega))) (by simp [Value.oneCell']) (by omega) (by unfold maxLen; omega) HMw10.out.sz ?_
              intro v5 w5a ho5 hg5 hv5
              simp only [Act.put, List.getElem_toArray, List.getElem_cons_succ, List.getElem_cons_zero, List.setIfInBounds_toArray, List.set_cons_zero, List.set_cons_succ]
              obtain ⟨p5, c5, rfl⟩ := owns_sliceL ho5
              have hms5 := HMw10.out.appA ho5 hg5 hv5
              have HMw5a := hid hms5; have G5 := hid hg5
              have lt5 : ∀ i, (Value.slice pa j ca).ownBlock = some i → i < wo.heap.size := fun i hi => (HMO.out.oa.lt i hi).2
              have LT5 := hid lt5
              clear hms5 ho5 hg5 hv5 lt5
              refine hK _ _ (.inr (.inr (HSG.out w5a HMw5a.out.g))) ?_
              clear hK K
              refine wpHJ_pure (v := ?vr00_12_29) 12 hFa rfl (by kernel_rfl) (fun _ _ _ h => h.elim) (Or.inl ⟨by rfl, ?yr00_12_29⟩) (.inr (HSG.out w5a HMw5a.out.g)) ?rr00_12_29
              case yr00_12_29 => (intro w' _; go_simp; try rfl)
              simp only [Act.put, List.getElem_toArray, List.getElem_cons_succ, List.getElem_cons_zero, List.setIfInBounds_toArray, List.set_cons_zero, List.set_cons_succ]
              refine wpHJ_pure (v := ?vr00_13_31) 13 hFa rfl (by kernel_rfl) (fun _ _ _ h => h.elim) (Or.inl ⟨by rfl, ?yr00_13_31⟩) (.inr (HSG.out w5a HMw5a.out.g)) ?rr00_13_31
              case yr00_13_31 => (intro w' _; go_simp; try rfl)
              simp only [Act.put, List.getElem_toArray, List.getElem_cons_succ, List.getElem_cons_zero, List.setIfInBounds_toArray, List.set_cons_zero, List.set_cons_succ]
              refine wpHJ_only 11 (by kernel_rfl) rfl ?_
              intro K hK
              rw [if_pos (by simp [Region.wanted, yielded])]
              refine wpIn_apd hFa (.tmp 88) (.tmp 90) 29 rfl (w5.heap.size + 1) 36 (.slice none 0 0) 24 Tryd.underlying29 info_nlC rfl (.slice pb j cb) j _ rfl HMw5a.out.ob (some ⟨w4.heap.size, 0, none⟩) 1 1 [.slice none 0 0] rfl rfl (row_kept R10.out (G5.out.block _ (by rw [Z10.out]; omega) (fun e => by have := LT5.out _ e.symm; have := Z4.out; have := HWD.out; omega))) (by simp [Value.oneCell']) (by omega) (by unfold maxLen; omega) HMw5a.out.sz ?_
              intro v11 w11 ho11 hg11 hv11
              simp only [Act.put, List.getElem_toArray, List.getElem_cons_succ, List.getElem_cons_zero, List.setIfInBounds_toArray, List.set_cons_zero, List.set_cons_succ]
              obtain ⟨p11, c11, rfl⟩ := owns_sliceL ho11
              have hms11 := HMw5a.out.appB ho11 hg11 hv11
              have HMw11 := hid hms11
              have y3 : w11.cell? ⟨w5.heap.size, 3, none⟩ = some (.slice pa j ca) := by rw [cell_of_row w11 _ 3 _ _ _ hms11.g]; rfl
              have y4 : w11.cell? ⟨w5.heap.size, 4, none⟩ = some (.slice pb j cb) := by rw [cell_of_row w11 _ 4 _ _ _ hms11.g]; rfl
              have e3 : w11.frozen? ⟨w5.heap.size, 3, none⟩ = false := frozen_of_row w11 _ 3 _ _ hms11.g
              have e4 : w11.frozen? ⟨w5.heap.size, 4, none⟩ = false := frozen_of_row w11 _ 4 _ _ hms11.g
              clear hms11 ho11 hg11 hv11
              refine hK _ _ (.inr (.inr (HSG.out w11 HMw11.out.g))) ?_
              clear hK K
              refine wpHJ_only 14 (by kernel_rfl) rfl ?_
              intro K hK
              go_simp
              refine hK _ _ (.inl rfl) ?_
              clear hK K
              refine wpHJ_pure (v := ?vr00_15_34) 15 hFa rfl (by kernel_rfl) (fun _ _ _ h => h.elim) (Or.inl ⟨by rfl, ?yr00_15_34⟩) (.inl rfl) ?rr00_15_34
              case yr00_15_34 => (intro w' _; go_simp; try rfl)
              simp only [Act.put, List.getElem_toArray, List.getElem_cons_succ, List.getElem_cons_zero, List.setIfInBounds_toArray, List.set_cons_zero, List.set_cons_succ]
              refine wpHJ_pure (v := ?vr00_16_35) 16 hFa rfl (by kernel_rfl) (fun _ _ _ h => h.elim) (Or.inl ⟨by rfl, ?yr00_16_35⟩) (.inl rfl) ?rr00_16_35
              case yr00_16_35 => (intro w' _; go_simp; try rfl)
              simp only [Act.put, List.getElem_toArray, List.getElem_cons_succ, List.getElem_cons_zero, List.setIfInBounds_toArray, List.set_cons_zero, List.set_cons_succ]
              refine wpHJ_only 17 (by kernel_rfl) rfl ?_
              intro K hK
              go_simp
              refine hK _ _ (.inr (.inl rfl)) ?_
              clear hK K
              refine wpHJ_done (by kernel_rfl) ?_ _
              simp only [onlyN, Exit.then]
              clear hFa
              go_wp2
              have hf := (HMw11.out.set 3 (.slice p5 (j + 1) c5)).set 4 (.slice p11 (j + 1) c11)
              have HF := hid hf
              clear hf y3 y4 e3 e4
              go_roundw
              case rel => exact ⟨j + 1, p5, c5, p11, c11, by omega, by go_num, by rw [RA.out, RB.out]; exact HF.out⟩
              case measure => simp [intOf]; omega
          · intro K hK
            go_simp
            obtain ⟨w10, eq10⟩ : ∃ W, wd.alloc (.cells #[.slice none 0 0] 36) = W := ⟨_, rfl⟩
            rw [eq10]
            have hw10 := HMwd.out.alloc (.cells #[.slice none 0 0] 36)
            have r10 := row_lit1 wd (.slice none 0 0)
            rw [eq10] at hw10 r10
            have z10 : w10.heap.size = wd.heap.size + 1 := by rw [← eq10, World.size_alloc]
            have k10 : ∀ i, i < wd.heap.size → w10.heap[i]? = wd.heap[i]? := fun i hi => by rw [← eq10, heap_al, if_neg (by omega)]
            have HMw10 := hid hw10; have R10 := hid r10; have Z10 := hid z10; have K10 := hid k10
            clear hw10 r10 z10 k10 eq10
            refine hK _ _ (.inr (.inr (HSG.out w10 HMw10.out.g))) ?_
            clear hK K
            refine wpHJ_only 4 (by kernel_rfl) rfl ?_
            intro K hK
            go_simp
            obtain ⟨w4, eq4⟩ : ∃ W, w10.alloc (.cells #[.slice none 0 0] 36) = W := ⟨_, rfl⟩
            rw [eq4]
            have hw4 := HMw10.out.alloc (.cells #[.slice none 0 0] 36)
            have r4 := row_lit1 w10 (.slice none 0 0)
            rw [eq4] at hw4 r4
            have z4 : w4.heap.size = w10.heap.size + 1 := by rw [← eq4, World.size_alloc]
            have k4 : ∀ i, i < w10.heap.size → w4.heap[i]? = w10.heap[i]? := fun i hi => by rw [← eq4, heap_al, if_neg (by omega)]
            have HMw4 := hid hw4; have R4 := hid r4; have Z4 := hid z4; have K4 := hid k4
            clear hw4 r4 z4 k4 eq4
            refine hK _ _ (.inr (.inr (HSG.out w4 HMw4.out.g))) ?_
            clear hK K
            refine wpHJ_only 5 (by kernel_rfl) rfl ?_
            intro K hK
            rw [if_pos (by simp [Region.wanted, yielded])]
            refine wpIn_apd hFa (.tmp 82) (.tmp 84) 29 rfl (w5.heap.size + 1) 36 (.slice none 0 0) 24 Tryd.underlying29 info_nlC rfl (.slice pa j ca) j _ rfl HMw4.out.oa (some ⟨w10.heap.size, 0, none⟩) 1 1 [.slice none 0 0] rfl rfl R4.out (by simp [Value.oneCell']) (by omega) (by unfold maxLen; omega) HMw4.out.sz ?_
            intro v5 w5a ho5 hg5 hv5
            simp only [Act.put, List.getElem_toArray, List.getElem_cons_succ, List.getElem_cons_zero, List.setIfInBounds_toArray, List.set_cons_zero, List.set_cons_succ]
            obtain ⟨p5, c5, rfl⟩ := owns_sliceL ho5
            have hms5 := HMw4.out.appA ho5 hg5 hv5
            have HMw5a := hid hms5; have G5 := hid hg5
            have lt5 : ∀ i, (Value.slice pa j ca).ownBlock = some i → i < wo.heap.size := fun i hi => (HMO.out.oa.lt i hi).2
            have LT5 := hid lt5
            clear hms5 ho5 hg5 hv5 lt5
            refine hK _ _ (.inr (.inr (HSG.out w5a HMw5a.out.g))) ?_
            clear hK K
            refine wpHJ_pure (v := ?vr00_12_40) 12 hFa rfl (by kernel_rfl) (fun _ _ _ h => h.elim) (Or.inl ⟨by rfl, ?yr00_12_40⟩) (.inr (HSG.out w5a HMw5a.out.g)) ?rr00_12_40
            case yr00_12_40 => (intro w' _; go_simp; try rfl)
            simp only [Act.put, List.getElem_toArray, List.getElem_cons_succ, List.getElem_cons_zero, List.setIfInBounds_toArray, List.set_cons_zero, List.set_cons_succ]
            refine wpHJ_pure (v := ?vr00_13_42) 13 hFa rfl (by kernel_rfl) (fun _ _ _ h => h.elim) (Or.inl ⟨by rfl, ?yr00_13_42⟩) (.inr (HSG.out w5a HMw5a.out.g)) ?rr00_13_42
            case yr00_13_42 => (intro w' _; go_simp; try rfl)
            simp only [Act.put, List.getElem_toArray, List.getElem_cons_succ, List.getElem_cons_zero, List.setIfInBounds_toArray, List.set_cons_zero, List.set_cons_succ]
            refine wpHJ_only 11 (by kernel_rfl) rfl ?_
            intro K hK
            rw [if_pos (by simp [Region.wanted, yielded])]
            refine wpIn_apd hFa (.tmp 88) (.tmp 90) 29 rfl (w5.heap.size + 1) 36 (.slice none 0 0) 24 Tryd.underlying29 info_nlC rfl (.slice pb j cb) j _ rfl HMw5a.out.ob (some ⟨wd.heap.size, 0, none⟩) 1 1 [.slice none 0 0] rfl rfl (row_kept (row_kept R10.out (K4.out _ (by rw [Z10.out]; omega))) (G5.out.block _ (by rw [Z4.out, Z10.out]; omega) (fun e => by have := LT5.out _ e.symm; have := HWD.out; omega))) (by simp [Value.oneCell']) (by omega) (by unfold maxLen; omega) HMw5a.out.sz ?_
            intro v11 w11 ho11 hg11 hv11
            simp only [Act.put, List.getElem_toArray, List.getElem_cons_succ, List.getElem_cons_zero, List.setIfInBounds_toArray, List.set_cons_zero, List.set_cons_succ]
            obtain ⟨p11, c11, rfl⟩ := owns_sliceL ho11
            have hms11 := HMw5a.out.appB ho11 hg11 hv11
            have HMw11 := hid hms11
            have y3 : w11.cell? ⟨w5.heap.size, 3, none⟩ = some (.slice pa j ca) := by rw [cell_of_row w11 _ 3 _ _ _ hms11.g]; rfl
            have y4 : w11.cell? ⟨w5.heap.size, 4, none⟩ = some (.slice pb j cb) := by rw [cell_of_row w11 _ 4 _ _ _ hms11.g]; rfl
            have e3 : w11.frozen? ⟨w5.heap.size, 3, none⟩ = false := frozen_of_row w11 _ 3 _ _ hms11.g
            have e4 : w11.frozen? ⟨w5.heap.size, 4, none⟩ = false := frozen_of_row w11 _ 4 _ _ hms11.g
            clear hms11 ho11 hg11 hv11
            refine hK _ _ (.inr (.inr (HSG.out w11 HMw11.out.g))) ?_
            clear hK K
            refine wpHJ_only 14 (by kernel_rfl) rfl ?_
            intro K hK
            go_simp
            refine hK _ _ (.inl rfl) ?_
            clear hK K
            refine wpHJ_pure (v := ?vr00_15_45) 15 hFa rfl (by kernel_rfl) (fun _ _ _ h => h.elim) (Or.inl ⟨by rfl, ?yr00_15_45⟩) (.inl rfl) ?rr00_15_45
            case yr00_15_45 => (intro w' _; go_simp; try rfl)
            simp only [Act.put, List.getElem_toArray, List.getElem_cons_succ, List.getElem_cons_zero, List.setIfInBounds_toArray, List.set_cons_zero, List.set_cons_succ]
            refine wpHJ_pure (v := ?vr00_16_46) 16 hFa rfl (by kernel_rfl) (fun _ _ _ h => h.elim) (Or.inl ⟨by rfl, ?yr00_16_46⟩) (.inl rfl) ?rr00_16_46
            case yr00_16_46 => (intro w' _; go_simp; try rfl)
            simp only [Act.put, List.getElem_toArray, List.getElem_cons_succ, List.getElem_cons_zero, List.setIfInBounds_toArray, List.set_cons_zero, List.set_cons_succ]
            refine wpHJ_only 17 (by kernel_rfl) rfl ?_
            intro K hK
            go_simp
            refine hK _ _ (.inr (.inl rfl)) ?_
            clear hK K
            refine wpHJ_done (by kernel_rfl) ?_ _
            simp only [onlyN, Exit.then]
            clear hFa
            go_wp2
            have hf := (HMw11.out.set 3 (.slice p5 (j + 1) c5)).set 4 (.slice p11 (j + 1) c11)
            have HF := hid hf
            clear hf y3 y4 e3 e4
            go_roundw
            case rel => exact ⟨j + 1, p5, c5, p11, c11, by omega, by go_num, by rw [RA.out, RB.out]; exact HF.out⟩
            case measure => simp [intOf]; omega
    · obtain rfl : j = c := by omega
      clear hS
      have z0 : wo.cell? ⟨w.heap.size + 1, 0, none⟩ = some (.int .u8 0) := (by rw [cell_of_row wo _ 0 _ _ _ hgz]; rfl)
      have f0 : wo.frozen? ⟨w.heap.size + 1, 0, none⟩ = false := frozen_of_row wo _ 0 _ _ hgz
      have z1 : wo.cell? ⟨w.heap.size + 1, 1, none⟩ = some (.int .u8 0) := (by rw [cell_of_row wo _ 1 _ _ _ hgz]; rfl)
      have f1 : wo.frozen? ⟨w.heap.size + 1, 1, none⟩ = false := frozen_of_row wo _ 1 _ _ hgz
      have z2 : wo.cell? ⟨w.heap.size + 1, 2, none⟩ = some (.int .i64 0) := (by rw [cell_of_row wo _ 2 _ _ _ hgz]; rfl)
      have f2 : wo.frozen? ⟨w.heap.size + 1, 2, none⟩ = false := frozen_of_row wo _ 2 _ _ hgz
      have z3 : wo.cell? ⟨w.heap.size + 1, 3, none⟩ = some (.slice none 0 0) := (by rw [cell_of_row wo _ 3 _ _ _ hgz]; rfl)
      have f3 : wo.frozen? ⟨w.heap.size + 1, 3, none⟩ = false := frozen_of_row wo _ 3 _ _ hgz
      have z4 : wo.cell? ⟨w.heap.size + 1, 4, none⟩ = some (.slice none 0 0) := (by rw [cell_of_row wo _ 4 _ _ _ hgz]; rfl)
      have f4 : wo.frozen? ⟨w.heap.size + 1, 4, none⟩ = false := frozen_of_row wo _ 4 _ _ hgz
      have z5 : wo.cell? ⟨w.heap.size + 1, 5, none⟩ = some (.bool false) := (by rw [cell_of_row wo _ 5 _ _ _ hgz]; rfl)
      have f5 : wo.frozen? ⟨w.heap.size + 1, 5, none⟩ = false := frozen_of_row wo _ 5 _ _ hgz
      have z6 : wo.cell? ⟨w.heap.size + 1, 6, none⟩ = some (.bool false) := (by rw [cell_of_row wo _ 6 _ _ _ hgz]; rfl)
      have f6 : wo.frozen? ⟨w.heap.size + 1, 6, none⟩ = false := frozen_of_row wo _ 6 _ _ hgz
      have z7 : wo.cell? ⟨w.heap.size + 1, 7, none⟩ = some (.int .i64 0) := (by rw [cell_of_row wo _ 7 _ _ _ hgz]; rfl)
      have f7 : wo.frozen? ⟨w.heap.size + 1, 7, none⟩ = false := frozen_of_row wo _ 7 _ _ hgz
      have z8 : wo.cell? ⟨w.heap.size + 1, 8, none⟩ = some (.int .i64 0) := (by rw [cell_of_row wo _ 8 _ _ _ hgz]; rfl)
      have f8 : wo.frozen? ⟨w.heap.size + 1, 8, none⟩ = false := frozen_of_row wo _ 8 _ _ hgz
      have z9 : wo.cell? ⟨w.heap.size + 1, 9, none⟩ = some (.int .i64 0) := (by rw [cell_of_row wo _ 9 _ _ _ hgz]; rfl)
      have f9 : wo.frozen? ⟨w.heap.size + 1, 9, none⟩ = false := frozen_of_row wo _ 9 _ _ hgz
      have y0 : wo.cell? ⟨w5.heap.size, 0, none⟩ = some (.int .u8 1) := (by rw [cell_of_row wo _ 0 _ _ _ hgg]; rfl)
      have y1 : wo.cell? ⟨w5.heap.size, 1, none⟩ = some (.int .u8 0) := (by rw [cell_of_row wo _ 1 _ _ _ hgg]; rfl)
      have y2 : wo.cell? ⟨w5.heap.size, 2, none⟩ = some (.int .i64 (q : Int)) := (by rw [cell_of_row wo _ 2 _ _ _ hgg]; rfl)
      have y3 : wo.cell? ⟨w5.heap.size, 3, none⟩ = some (.slice pa j ca) := (by rw [cell_of_row wo _ 3 _ _ _ hgg]; rfl)
      have y4 : wo.cell? ⟨w5.heap.size, 4, none⟩ = some (.slice pb j cb) := (by rw [cell_of_row wo _ 4 _ _ _ hgg]; rfl)
      have y5 : wo.cell? ⟨w5.heap.size, 5, none⟩ = some (.bool imp) := (by rw [cell_of_row wo _ 5 _ _ _ hgg]; rfl)
      have y6 : wo.cell? ⟨w5.heap.size, 6, none⟩ = some (.bool false) := (by rw [cell_of_row wo _ 6 _ _ _ hgg]; rfl)
      have y7 : wo.cell? ⟨w5.heap.size, 7, none⟩ = some (.int .i64 0) := (by rw [cell_of_row wo _ 7 _ _ _ hgg]; rfl)
      have y8 : wo.cell? ⟨w5.heap.size, 8, none⟩ = some (.int .i64 0) := (by rw [cell_of_row wo _ 8 _ _ _ hgg]; rfl)
      have y9 : wo.cell? ⟨w5.heap.size, 9, none⟩ = some (.int .i64 0) := (by rw [cell_of_row wo _ 9 _ _ _ hgg]; rfl)
      have HGZ := hid hgz
      clear hgz hgg x3 x4
      go_wp2_with fail
      obtain ⟨g8, k8, s8, b8⟩ := set10 HGZ.out (.int .u8 1) (.int .u8 0) (.int .i64 (q : Int)) (.slice pa j ca) (.slice pb j cb) (.bool imp) (.bool false) (.int .i64 0) (.int .i64 0) (.int .i64 0)
      have hb8 := b8 (HB7.out.trans (HMO.out.be.mono (by have := H50.out; exact Nat.le_of_lt this))) (by omega)
      generalize ((((((((((wo).setCell ⟨w.heap.size + 1, 0, none⟩ (.int .u8 1)).setCell ⟨w.heap.size + 1, 1, none⟩ (.int .u8 0)).setCell ⟨w.heap.size + 1, 2, none⟩ (.int .i64 (q : Int))).setCell ⟨w.heap.size + 1, 3, none⟩ (.slice pa j ca)).setCell ⟨w.heap.size + 1, 4, none⟩ (.slice pb j cb)).setCell ⟨w.heap.size + 1, 5, none⟩ (.bool imp)).setCell ⟨w.heap.size + 1, 6, none⟩ (.bool false)).setCell ⟨w.heap.size + 1, 7, none⟩ (.int .i64 0)).setCell ⟨w.heap.size + 1, 8, none⟩ (.int .i64 0)).setCell ⟨w.heap.size + 1, 9, none⟩ (.int .i64 0) = w8 at *
      have q0 : w8.cell? ⟨w.heap.size + 1, 0, none⟩ = some (.int .u8 1) := (by rw [cell_of_row w8 _ 0 _ _ _ g8]; rfl)
      have q1 : w8.cell? ⟨w.heap.size + 1, 1, none⟩ = some (.int .u8 0) := (by rw [cell_of_row w8 _ 1 _ _ _ g8]; rfl)
      have q2 : w8.cell? ⟨w.heap.size + 1, 2, none⟩ = some (.int .i64 (q : Int)) := (by rw [cell_of_row w8 _ 2 _ _ _ g8]; rfl)
      have q3 : w8.cell? ⟨w.heap.size + 1, 3, none⟩ = some (.slice pa j ca) := (by rw [cell_of_row w8 _ 3 _ _ _ g8]; rfl)
      have q4 : w8.cell? ⟨w.heap.size + 1, 4, none⟩ = some (.slice pb j cb) := (by rw [cell_of_row w8 _ 4 _ _ _ g8]; rfl)
      have q5 : w8.cell? ⟨w.heap.size + 1, 5, none⟩ = some (.bool imp) := (by rw [cell_of_row w8 _ 5 _ _ _ g8]; rfl)
      have q6 : w8.cell? ⟨w.heap.size + 1, 6, none⟩ = some (.bool false) := (by rw [cell_of_row w8 _ 6 _ _ _ g8]; rfl)
      have q7 : w8.cell? ⟨w.heap.size + 1, 7, none⟩ = some (.int .i64 0) := (by rw [cell_of_row w8 _ 7 _ _ _ g8]; rfl)
      have q8 : w8.cell? ⟨w.heap.size + 1, 8, none⟩ = some (.int .i64 0) := (by rw [cell_of_row w8 _ 8 _ _ _ g8]; rfl)
      have q9 : w8.cell? ⟨w.heap.size + 1, 9, none⟩ = some (.int .i64 0) := (by rw [cell_of_row w8 _ 9 _ _ _ g8]; rfl)
      refine bodyPost_ret (v := .agg #[.int .u8 1, .int .u8 0, .int .i64 (q : Int), .slice pa j ca, .slice pb j cb, .bool imp, .bool false, .int .i64 0, .int .i64 0, .int .i64 0]) (by simp [results, Tryd.results14, go_sem, q0, q1, q2, q3, q4, q5, q6, q7, q8, q9]) rfl ?_
      have lenA : ((List.range j).map (atL LA)).length = j := by simp
      have lenB : ((List.range j).map (atL LB)).length = j := by simp
      refine ⟨hb8, pa, ca, pb, cb, ?_, ?_, ?_⟩
      · first | rfl | (rw [lenA, lenB]; rfl)
      · first | exact made_nll (us := us1) (L := LA) HUL1.out HX1.out (w2 := w7) (B := w.heap.size) (fun i hi => HRL1.out i hi) (fun i hi => HRB1.out i hi) (owns_keepL HMO.out.oa fun i hi => k8 i (by have := (HMO.out.oa.lt i hi).1; have := H51.out; omega)) (fun i hi => (k8 i (by have := HRB1.out i hi; have := HRB1x1.out i hi; omega)).trans (HMO.out.be.block i (HRL1.out i hi))) (by have := HMO.out.sz; rw [s8]; omega) (by have := H50.out; omega) hc | (rw [lenA]; exact made_nll (us := us1) (L := LA) HUL1.out HX1.out (w2 := w7) (B := w.heap.size) (fun i hi => HRL1.out i hi) (fun i hi => HRB1.out i hi) (owns_keepL HMO.out.oa fun i hi => k8 i (by have := (HMO.out.oa.lt i hi).1; have := H51.out; omega)) (fun i hi => (k8 i (by have := HRB1.out i hi; have := HRB1x1.out i hi; omega)).trans (HMO.out.be.block i (HRL1.out i hi))) (by have := HMO.out.sz; rw [s8]; omega) (by have := H50.out; omega) hc)
      · first | exact made_nll (us := us2) (L := LB) HUL2.out HX2.out (w2 := w7) (B := w.heap.size) (fun i hi => HRL2.out i hi) (fun i hi => HRB2.out i hi) (owns_keepL HMO.out.ob fun i hi => k8 i (by have := (HMO.out.ob.lt i hi).1; have := H51.out; omega)) (fun i hi => (k8 i (by have := HRB2.out i hi; have := HRB1x2.out i hi; omega)).trans (HMO.out.be.block i (HRL2.out i hi))) (by have := HMO.out.sz; rw [s8]; omega) (by have := H50.out; omega) hc | (rw [lenB]; exact made_nll (us := us2) (L := LB) HUL2.out HX2.out (w2 := w7) (B := w.heap.size) (fun i hi => HRL2.out i hi) (fun i hi => HRB2.out i hi) (owns_keepL HMO.out.ob fun i hi => k8 i (by have := (HMO.out.ob.lt i hi).1; have := H51.out; omega)) (fun i hi => (k8 i (by have := HRB2.out i hi; have := HRB1x2.out i hi; omega)).trans (HMO.out.be.block i (HRL2.out i hi))) (by have := HMO.out.sz; rw [s8]; omega) (by have := H50.out; omega) hc)

theorem made_any (v : Vd) (pA pB : Option Addr) (cA cB : Nat) (m c : Nat) (R : Nat → Prop) (w : World) (hv : VdOk v) (hm : 1 ≤ m ∧ m ≤ 1000) (hc : c ≤ 1000) (hA : NLL R w (.slice pA v.A.length cA) v.A) (hB : NLL R w (.slice pB v.B.length cB) v.B) (hR : ∀ i, R i → i < w.heap.size) (hlA : ∀ x ∈ v.A, x.length ≤ 17592186044415) (hlB : ∀ x ∈ v.B, x.length ≤ 17592186044415) :
    Calls Tryd.prog 14 #[vdV v (.slice pA v.A.length cA) (.slice pB v.B.length cB), .int .i64 (m : Int), .int .i64 (c : Int)] w (MadePost v m c w) := by
  obtain ⟨k, r, lv, A, B, imp, pol, ln, co, er⟩ := v
  obtain ⟨hk, hr, hlv, hln, hco, her, hAn, hBn⟩ := hv
  obtain h | h | h | h : k % 4 = 0 ∨ k % 4 = 1 ∨ k % 4 = 2 ∨ k % 4 = 3 := by omega
  · exact made_k0 k r lv A B imp pol ln co er pA pB cA cB m c R w h hk hr hm hc hlv her hA hB hR hlA hlB
  · exact made_k1 k r lv A B imp pol ln co er pA pB cA cB m c R w h hk hr hm hc hlv her hA hB hR hlA hlB
  · exact made_k2 k r lv A B imp pol ln co er pA pB cA cB m c R w h hk hr hm hc hlv her hA hB hR hlA hlB
  · exact made_k3 k r lv A B imp pol ln co er pA pB cA cB m c R w h hk hr hm hc hlv her hA hB hR hlA hlB
theorem cutL_mem {l : List (List Nat)} {N : Nat} (h : ∀ x ∈ l, ∀ y ∈ x, y ≤ N) : ∀ x ∈ cutL l, ∀ y ∈ x, y ≤ N := by
  intro x hx y hy
  unfold cutL at hx
  obtain ⟨z, hz, rfl⟩ := List.mem_map.1 hx
  exact h z (List.mem_of_mem_take hz) y (List.mem_of_mem_take hy)
theorem rng_mem {l : List (List Nat)} {N c : Nat} (h : ∀ x ∈ l, ∀ y ∈ x, y ≤ N) : ∀ x ∈ (List.range c).map (atL l), ∀ y ∈ x, y ≤ N := by
  intro x hx y hy
  obtain ⟨i, _, rfl⟩ := List.mem_map.1 hx
  unfold atL List.getD at hy
  by_cases hi : i < l.length
  · rw [List.getElem?_eq_getElem hi] at hy; exact h _ (List.getElem_mem hi) y hy
  · rw [List.getElem?_eq_none (by omega)] at hy; cases hy
theorem made_ok (v : Vd) (m c : Nat) (hv : VdOk v) (hm : 1 ≤ m ∧ m ≤ 1000) : VdOk (madeV v m c) := by
  obtain ⟨k, r, lv, A, B, imp, pol, ln, co, er⟩ := v
  obtain ⟨hk, hr, hlv, hln, hco, her, hAn, hBn⟩ := hv
  have h1 : 0 ≤ lv % (m : Int) := Int.emod_nonneg _ (by omega)
  have h2 : lv % (m : Int) < m := Int.emod_lt_of_pos _ (by omega)
  unfold madeV
  dsimp only at *
  split
  · exact ⟨by dsimp only; omega, by dsimp only; omega, by dsimp only; omega, by dsimp only; omega, by dsimp only; omega, by dsimp only; omega, fun x hx => absurd hx (by simp), fun x hx => absurd hx (by simp)⟩
  · split
    · exact ⟨by dsimp only; omega, by dsimp only; omega, by dsimp only; omega, hln, hco, by dsimp only; omega, fun x hx => absurd hx (by simp), fun x hx => absurd hx (by simp)⟩
    · split
      · exact ⟨by dsimp only; omega, by dsimp only; omega, by dsimp only; omega, by dsimp only; omega, by dsimp only; omega, by dsimp only; omega, rng_mem (cutL_mem hAn), rng_mem (cutL_mem hBn)⟩
      · exact ⟨by dsimp only; omega, by dsimp only; omega, by dsimp only; omega, by dsimp only; omega, by dsimp only; omega, by dsimp only; omega, fun x hx => absurd hx (by simp), fun x hx => absurd hx (by simp)⟩
theorem made_mv (v : Vd) (m c : Nat) (hm : 1 ≤ m) : Mv m c (madeV v m c) := by
  unfold madeV
  split
  · exact .inc _ (by omega) (by omega)
  · split
    · exact .rej _ _ _ _ (by omega) (by omega)
    · split
      · have h1 : 0 ≤ v.level % (m : Int) := Int.emod_nonneg _ (by omega)
        have h2 : v.level % (m : Int) < m := Int.emod_lt_of_pos _ (by omega)
        have e : v.level % (m : Int) = ((v.level % (m : Int)).toNat : Int) := by omega
        rw [e]
        exact .lk _ _ _ _ (by omega) (by simp) (by simp)
      · exact .sec

end Go.Proofs.YtehjfmbnebeioaaDoor
