/-
  The walk of ReportTurns.
-/
import Derived.Test.YtehjfmbnebeioaaDoorRqQ
import Derived.Test.YtehjfmbnebeioaaDoorRqO
import Derived.IntWalk
namespace Go.Proofs.YtehjfmbnebeioaaDoor
set_option linter.unusedSimpArgs false
set_option linter.unusedVariables false
open Go.RowKit Go.Shelf
attribute [local go_sem] Oper.semAt_some

set_option maxRecDepth 100000 in
set_option maxHeartbeats 4000000 in
theorem turns_walk (v : Vd) (pA : Option Addr) (cA : Nat) (pB : Option Addr) (cB : Nat) (lv ch : Int) (w : World) (hv : VdOk v) (hvA : NLL (fun i => i < w.heap.size) w (.slice pA v.A.length cA) v.A) (hvB : NLL (fun i => i < w.heap.size) w (.slice pB v.B.length cB) v.B) (lvA : ∀ y ∈ v.A, y.length ≤ 17592186044415) (lvB : ∀ y ∈ v.B, y.length ≤ 17592186044415)
    (hlv : -9223372036854775808 ≤ lv ∧ lv ≤ 9223372036854775807) (hch : -9223372036854775808 ≤ ch ∧ ch ≤ 9223372036854775807) (ht : Tabs w) :
    Calls Tryd.prog 7 #[.agg #[.int .u8 (v.kind : Int), .int .u8 (v.reason : Int), .int .i64 v.level, .slice pA v.A.length cA, .slice pB v.B.length cB, .bool v.imp, .bool v.pol, .int .i64 v.line, .int .i64 v.col, .int .i64 v.err], .int .i64 lv, .int .i64 ch] w fun e w' => e = .returned (.bool true) ∧ Below w.heap.size w w' := by
  obtain ⟨W0, hW0⟩ : ∃ W, w.alloc (.cells #[.int .u8 1, .int .u8 (v.reason : Int), .int .i64 v.level, .slice pA v.A.length cA, .slice pB v.B.length cB, .bool v.imp, .bool v.pol, .int .i64 v.line, .int .i64 v.col, .int .i64 v.err] 35) = W := ⟨_, rfl⟩
  have hb0 : Below w.heap.size w W0 := by rw [← hW0]; exact (Below.refl _ _).alloc (Nat.le_refl _) _
  have hz0 : W0.heap.size = w.heap.size + 1 := by rw [← hW0, World.size_alloc]
  have hc0 : W0.heap[w.heap.size]? = some (.cells #[.int .u8 1, .int .u8 (v.reason : Int), .int .i64 v.level, .slice pA v.A.length cA, .slice pB v.B.length cB, .bool v.imp, .bool v.pol, .int .i64 v.line, .int .i64 v.col, .int .i64 v.err] 35 (0, 0)) := by rw [← hW0, heap_al, if_pos rfl]
  have up : ∀ i, i < w.heap.size → i < W0.heap.size ∧ W0.heap[i]? = w.heap[i]? := fun i hi => ⟨by omega, hb0.block i hi⟩
  have hv0 : VB W0 (w.heap.size) ⟨1, v.reason, v.level, v.A, v.B, v.imp, v.pol, v.line, v.col, v.err⟩ pA cA pB cB := ⟨hc0, hvA.keep up, hvB.keep up⟩
  have hv1 : VdOk ⟨1, v.reason, v.level, v.A, v.B, v.imp, v.pol, v.line, v.col, v.err⟩ := ⟨by dsimp only; omega, hv.reason, hv.level, hv.line, hv.col, hv.err, hv.A, hv.B⟩
  obtain ⟨q, hq⟩ : ∃ q : Nat, lv % 5 = (q : Int) := ⟨(lv % 5).toNat, by omega⟩
  obtain ⟨n, hn⟩ : ∃ n : Nat, ch % 5 = (n : Int) := ⟨(ch % 5).toNat, by omega⟩
  have HQ := hid (kmod_lit lv 5 q hlv (by omega) hq)
  have HN := hid (kmod_lit ch 5 n hch (by omega) hn)
  have hq4 : q ≤ 4 := by omega
  have hn4 : n ≤ 4 := by omega
  obtain ⟨m, hm⟩ : ∃ m : Nat, m = 1 + q := ⟨_, rfl⟩
  have em : 1 + (q : Int) = (m : Int) := by omega
  have hm1 : 1 ≤ m ∧ m ≤ 5 := by omega
  obtain ⟨x, hx⟩ : ∃ x, madeV ⟨1, v.reason, v.level, v.A, v.B, v.imp, v.pol, v.line, v.col, v.err⟩ m n = x := ⟨_, rfl⟩
  have hxo : VdOk x := by rw [← hx]; exact made_ok _ m n hv1 (by omega)
  have hxm : Mv m n x := by rw [← hx]; exact made_mv _ m n (by omega)
  have hxk : x.kind = 1 := by rw [← hx]; rfl
  obtain ⟨z, r1, r2, g1, g2, g3, g4, g5⟩ := turns hxm hxk
  obtain ⟨y, hy⟩ : ∃ y, turnV x = y := ⟨_, rfl⟩
  have hyo : VdOk y := by rw [← hy]; exact turn_ok hxo
  have hym : Mv m n y := by rw [← hy]; exact turn_mv hxm
  obtain ⟨l1, hl1⟩ : ∃ l, (vlinesR x (namesL m) (namesL n)).1 = l := ⟨_, rfl⟩
  obtain ⟨l2, hl2⟩ : ∃ l, (vlinesR y (namesL m) (namesL n)).1 = l := ⟨_, rfl⟩
  rw [hl1] at g1
  rw [hy, hl2] at g2
  have hN1 : l1.length = 1 + 2 * n := by rw [g1, List.length_cons, g3]; omega
  have hN2 : l2.length = 1 + 2 * n := by rw [g2, List.length_cons, g4]; omega
  have HMV := hid (show Calls Tryd.prog 14 #[.agg #[.int .u8 1, .int .u8 (v.reason : Int), .int .i64 v.level, .slice pA v.A.length cA, .slice pB v.B.length cB, .bool v.imp, .bool v.pol, .int .i64 v.line, .int .i64 v.col, .int .i64 v.err], .int .i64 (m : Int), .int .i64 (n : Int)] W0 _ from made_boxV m n hv0 hv1 (by omega) (by omega) lvA lvB x hx)
  have HNM := hid (fun W => names_box m W (by omega))
  have HNC := hid (fun W => names_box n W (by omega))
  have HLX := hid (fun (W : World) (p1 : Option Addr) (c1 : Nat) (p2 : Option Addr) (c2 : Nat) (vl vc : Value) (h : VB W (w.heap.size) x p1 c1 p2 c2) => lines_boxV (vl := vl) (vc := vc) hxo hxm (by omega) l1 hl1 h)
  have HLY := hid (fun (g : Nat) (W : World) (p1 : Option Addr) (c1 : Nat) (p2 : Option Addr) (c2 : Nat) (vl vc : Value) (h : VB W g y p1 c1 p2 c2) => lines_boxV (vl := vl) (vc := vc) hyo hym (by omega) l2 hl2 h)
  have G1 := hid g1; have G2 := hid g2; have G3 := hid g3; have G4 := hid g4; have G5 := hid g5; have HY := hid hy
  have HV0 := hid hv0; have HB0 := hid hb0; have HZ := hid hz0; have HWW := hid hW0; have HT := hid ht; have HN1 := hid hN1; have HN2 := hid hN2
  clear hvA hvB hb0 hz0 hc0 hW0 up lvA lvB hv hv1 hxo hxm hxk hyo hym hl1 hl2 hv0 hx hy hq hn ht hm g1 g2 g3 g4 g5 hN1 hN2
  go_enter Tryd.func7, Tryd.ntmps7
  go_wp2_with (go_at_call 13; (first | with_reducible refine (HQ.out _).mono ?_ | with_reducible refine (HN.out _).mono ?_); rintro e w1 ⟨rfl, rfl⟩)
  rw [HWW.out]
  refine HMV.out.mono ?_
  rintro e w2 ⟨hb2, p1, c1, p2, c2, rfl, hx1, hx2⟩
  have hv2 := HV0.out.step hb2
  have HV2 := hid hv2; have HX1 := hid hx1; have HX2 := hid hx2; have HB2 := hid (HB0.out.trans (hb2.mono HB0.out.size))
  have x0 : w2.cell? ⟨w.heap.size, 0, none⟩ = some (.int .u8 1) := (by rw [cell_of_row w2 _ 0 _ _ _ hv2.c]; rfl)
  have f0 : w2.frozen? ⟨w.heap.size, 0, none⟩ = false := frozen_of_row w2 _ 0 _ _ hv2.c
  have x1 : w2.cell? ⟨w.heap.size, 1, none⟩ = some (.int .u8 (v.reason : Int)) := (by rw [cell_of_row w2 _ 1 _ _ _ hv2.c]; rfl)
  have f1 : w2.frozen? ⟨w.heap.size, 1, none⟩ = false := frozen_of_row w2 _ 1 _ _ hv2.c
  have x2 : w2.cell? ⟨w.heap.size, 2, none⟩ = some (.int .i64 v.level) := (by rw [cell_of_row w2 _ 2 _ _ _ hv2.c]; rfl)
  have f2 : w2.frozen? ⟨w.heap.size, 2, none⟩ = false := frozen_of_row w2 _ 2 _ _ hv2.c
  have x3 : w2.cell? ⟨w.heap.size, 3, none⟩ = some (.slice pA v.A.length cA) := (by rw [cell_of_row w2 _ 3 _ _ _ hv2.c]; rfl)
  have f3 : w2.frozen? ⟨w.heap.size, 3, none⟩ = false := frozen_of_row w2 _ 3 _ _ hv2.c
  have x4 : w2.cell? ⟨w.heap.size, 4, none⟩ = some (.slice pB v.B.length cB) := (by rw [cell_of_row w2 _ 4 _ _ _ hv2.c]; rfl)
  have f4 : w2.frozen? ⟨w.heap.size, 4, none⟩ = false := frozen_of_row w2 _ 4 _ _ hv2.c
  have x5 : w2.cell? ⟨w.heap.size, 5, none⟩ = some (.bool v.imp) := (by rw [cell_of_row w2 _ 5 _ _ _ hv2.c]; rfl)
  have f5 : w2.frozen? ⟨w.heap.size, 5, none⟩ = false := frozen_of_row w2 _ 5 _ _ hv2.c
  have x6 : w2.cell? ⟨w.heap.size, 6, none⟩ = some (.bool v.pol) := (by rw [cell_of_row w2 _ 6 _ _ _ hv2.c]; rfl)
  have f6 : w2.frozen? ⟨w.heap.size, 6, none⟩ = false := frozen_of_row w2 _ 6 _ _ hv2.c
  have x7 : w2.cell? ⟨w.heap.size, 7, none⟩ = some (.int .i64 v.line) := (by rw [cell_of_row w2 _ 7 _ _ _ hv2.c]; rfl)
  have f7 : w2.frozen? ⟨w.heap.size, 7, none⟩ = false := frozen_of_row w2 _ 7 _ _ hv2.c
  have x8 : w2.cell? ⟨w.heap.size, 8, none⟩ = some (.int .i64 v.col) := (by rw [cell_of_row w2 _ 8 _ _ _ hv2.c]; rfl)
  have f8 : w2.frozen? ⟨w.heap.size, 8, none⟩ = false := frozen_of_row w2 _ 8 _ _ hv2.c
  have x9 : w2.cell? ⟨w.heap.size, 9, none⟩ = some (.int .i64 v.err) := (by rw [cell_of_row w2 _ 9 _ _ _ hv2.c]; rfl)
  have f9 : w2.frozen? ⟨w.heap.size, 9, none⟩ = false := frozen_of_row w2 _ 9 _ _ hv2.c
  clear hb2 hx1 hx2 hv2
  go_wp2_with (first | (obtain ⟨w3, hw3⟩ : ∃ W, ((((((((((w2).setCell ⟨w.heap.size, 0, none⟩ (.int .u8 (x.kind : Int))).setCell ⟨w.heap.size, 1, none⟩ (.int .u8 (x.reason : Int))).setCell ⟨w.heap.size, 2, none⟩ (.int .i64 x.level)).setCell ⟨w.heap.size, 3, none⟩ (.slice p1 x.A.length c1)).setCell ⟨w.heap.size, 4, none⟩ (.slice p2 x.B.length c2)).setCell ⟨w.heap.size, 5, none⟩ (.bool x.imp)).setCell ⟨w.heap.size, 6, none⟩ (.bool x.pol)).setCell ⟨w.heap.size, 7, none⟩ (.int .i64 x.line)).setCell ⟨w.heap.size, 8, none⟩ (.int .i64 x.col)).setCell ⟨w.heap.size, 9, none⟩ (.int .i64 x.err) = W := ⟨_, rfl⟩; rw [hw3]; obtain ⟨hx3, hk3, hs3, hb3⟩ := HV2.out.of_set (x := x) (p1 := p1) (c1 := c1) (p2 := p2) (c2 := c2) HX1.out HX2.out (fun i hi => ⟨by have := HZ.out; omega, hi.2⟩) (fun i hi => ⟨by have := HZ.out; omega, hi.2⟩) hw3; have HX3 := hid hx3; have HB3 := hid (hb3 HB2.out (Nat.le_refl _)); clear x0 f0 x1 f1 x2 f2 x3 f3 x4 f4 x5 f5 x6 f6 x7 f7 x8 f8 x9 f9 hw3 hk3 hs3 hb3; have x0 : w3.cell? ⟨w.heap.size, 0, none⟩ = some (.int .u8 (x.kind : Int)) := (by rw [cell_of_row w3 _ 0 _ _ _ hx3.c]; rfl); have x1 : w3.cell? ⟨w.heap.size, 1, none⟩ = some (.int .u8 (x.reason : Int)) := (by rw [cell_of_row w3 _ 1 _ _ _ hx3.c]; rfl); have x2 : w3.cell? ⟨w.heap.size, 2, none⟩ = some (.int .i64 x.level) := (by rw [cell_of_row w3 _ 2 _ _ _ hx3.c]; rfl); have x3 : w3.cell? ⟨w.heap.size, 3, none⟩ = some (.slice p1 x.A.length c1) := (by rw [cell_of_row w3 _ 3 _ _ _ hx3.c]; rfl); have x4 : w3.cell? ⟨w.heap.size, 4, none⟩ = some (.slice p2 x.B.length c2) := (by rw [cell_of_row w3 _ 4 _ _ _ hx3.c]; rfl); have x5 : w3.cell? ⟨w.heap.size, 5, none⟩ = some (.bool x.imp) := (by rw [cell_of_row w3 _ 5 _ _ _ hx3.c]; rfl); have x6 : w3.cell? ⟨w.heap.size, 6, none⟩ = some (.bool x.pol) := (by rw [cell_of_row w3 _ 6 _ _ _ hx3.c]; rfl); have x7 : w3.cell? ⟨w.heap.size, 7, none⟩ = some (.int .i64 x.line) := (by rw [cell_of_row w3 _ 7 _ _ _ hx3.c]; rfl); have x8 : w3.cell? ⟨w.heap.size, 8, none⟩ = some (.int .i64 x.col) := (by rw [cell_of_row w3 _ 8 _ _ _ hx3.c]; rfl); have x9 : w3.cell? ⟨w.heap.size, 9, none⟩ = some (.int .i64 x.err) := (by rw [cell_of_row w3 _ 9 _ _ _ hx3.c]; rfl); clear hx3) | (obtain ⟨w4, hw4⟩ : ∃ W, w3.alloc (.cells #[.int .u8 (x.kind : Int), .int .u8 (x.reason : Int), .int .i64 x.level, .slice p1 x.A.length c1, .slice p2 x.B.length c2, .bool x.imp, .bool x.pol, .int .i64 x.line, .int .i64 x.col, .int .i64 x.err] 35) = W := ⟨_, rfl⟩; rw [hw4]; have hg4 : w4.heap[w3.heap.size]? = some (.cells #[.int .u8 (x.kind : Int), .int .u8 (x.reason : Int), .int .i64 x.level, .slice p1 x.A.length c1, .slice p2 x.B.length c2, .bool x.imp, .bool x.pol, .int .i64 x.line, .int .i64 x.col, .int .i64 x.err] 35 (0, 0)) := (by rw [← hw4, heap_al, if_pos rfl]); have hb4 : Below w3.heap.size w3 w4 := (by rw [← hw4]; exact (Below.refl _ _).alloc (Nat.le_refl _) _); have hs4 : w4.heap.size = w3.heap.size + 1 := (by rw [← hw4, World.size_alloc]); have hv4 := HX3.out.step hb4; have HV4 := hid hv4; have HG4 := hid hg4; have HB4 := hid (HB3.out.trans (hb4.mono HB3.out.size)); have HB34 := hid hb4; have HS4 := hid hs4; clear x0 x1 x2 x3 x4 x5 x6 x7 x8 x9 hw4; have x3 : w4.cell? ⟨w.heap.size, 3, none⟩ = some (.slice p1 x.A.length c1) := (by rw [cell_of_row w4 _ 3 _ _ _ hv4.c]; rfl); have x4 : w4.cell? ⟨w.heap.size, 4, none⟩ = some (.slice p2 x.B.length c2) := (by rw [cell_of_row w4 _ 4 _ _ _ hv4.c]; rfl); have y3 : w4.cell? ⟨w3.heap.size, 3, none⟩ = some (.slice p1 x.A.length c1) := (by rw [cell_of_row w4 _ 3 _ _ _ hg4]; rfl); have y4 : w4.cell? ⟨w3.heap.size, 4, none⟩ = some (.slice p2 x.B.length c2) := (by rw [cell_of_row w4 _ 4 _ _ _ hg4]; rfl); have f3 : w4.frozen? ⟨w3.heap.size, 3, none⟩ = false := frozen_of_row w4 _ 3 _ _ hg4; have f4 : w4.frozen? ⟨w3.heap.size, 4, none⟩ = false := frozen_of_row w4 _ 4 _ _ hg4; clear hg4 hb4 hs4 hv4))
  have HLT := hid (show w.heap.size < w3.heap.size from HX3.out.lt)
  have HST : ∀ (W' : World) (i : Nat) (u : Value), (fun W' : World => W'.cell? ⟨w.heap.size, 3, none⟩ = some (.slice p1 x.A.length c1) ∧ W'.cell? ⟨w.heap.size, 4, none⟩ = some (.slice p2 x.B.length c2)) W' → (fun W' : World => W'.cell? ⟨w.heap.size, 3, none⟩ = some (.slice p1 x.A.length c1) ∧ W'.cell? ⟨w.heap.size, 4, none⟩ = some (.slice p2 x.B.length c2)) (W'.setCell ⟨w3.heap.size, i, none⟩ u) := fun W' i u h => by
    have hk : ∀ o, (W'.setCell ⟨w3.heap.size, i, none⟩ u).cell? ⟨w.heap.size, o, none⟩ = W'.cell? ⟨w.heap.size, o, none⟩ := fun o => World.cell?_of_block (Below.heap_setCell _ _ _ _ (by show w.heap.size ≠ w3.heap.size; have := HLT.out; omega))
    exact ⟨(hk 3).trans h.1, (hk 4).trans h.2⟩
  have hS : (fun W' : World => W'.cell? ⟨w.heap.size, 3, none⟩ = some (.slice p1 x.A.length c1) ∧ W'.cell? ⟨w.heap.size, 4, none⟩ = some (.slice p2 x.B.length c2)) w4.drew := ⟨x3, x4⟩
  have hFa : ∀ f, Fence.wide.fn f := fun _ => trivial
  refine (wpIn_wide (n := 9)).1 ?_
  refine wpIn_onlyN ?_
  refine wpIn_region_HJ (fun W' : World => W'.cell? ⟨w.heap.size, 3, none⟩ = some (.slice p1 x.A.length c1) ∧ W'.cell? ⟨w.heap.size, 4, none⟩ = some (.slice p2 x.B.length c2)) 11 (by kernel_rfl) ?_
  simp only [List.size_toArray, List.length_cons, List.length_nil, Nat.reduceAdd]
  refine wpHJ_pure (v := ?va0) 0 hFa rfl (by kernel_rfl) (fun _ _ _ h => h.elim) (Or.inl ⟨by rfl, ?ya0⟩) (.inr hS) ?ra0
  case ya0 => (intro w' _; go_simp; try rfl)
  simp only [Act.put, List.getElem_toArray, List.getElem_cons_succ, List.getElem_cons_zero, List.setIfInBounds_toArray, List.set_cons_zero, List.set_cons_succ]
  refine wpHJ_pure (v := ?va1) 1 hFa rfl (by kernel_rfl) (fun _ _ _ h => h.elim) (Or.inl ⟨by rfl, ?ya1⟩) (.inr hS) ?ra1
  case ya1 => (intro w' _; go_simp; try rfl)
  simp only [Act.put, List.getElem_toArray, List.getElem_cons_succ, List.getElem_cons_zero, List.setIfInBounds_toArray, List.set_cons_zero, List.set_cons_succ]
  refine wpHJ_take (v := ?va2) 2 hFa rfl (by kernel_rfl) (fun _ _ _ h => h.elim) (Or.inl ⟨by rfl, ?ya2⟩) hS ?ra2
  case ya2 => (intro w' hS'; obtain ⟨s3, s4⟩ := hS'; go_simp; try rfl)
  simp only [Act.put, List.getElem_toArray, List.getElem_cons_succ, List.getElem_cons_zero, List.setIfInBounds_toArray, List.set_cons_zero, List.set_cons_succ]
  refine wpHJ_pure (v := ?va3) 3 hFa rfl (by kernel_rfl) (fun _ _ _ h => h.elim) (Or.inl ⟨by rfl, ?ya3⟩) (.inr hS) ?ra3
  case ya3 => (intro w' _; go_simp; try rfl)
  simp only [Act.put, List.getElem_toArray, List.getElem_cons_succ, List.getElem_cons_zero, List.setIfInBounds_toArray, List.set_cons_zero, List.set_cons_succ]
  refine wpHJ_pure (v := ?va4) 4 hFa rfl (by kernel_rfl) (fun _ _ _ h => h.elim) (Or.inl ⟨by rfl, ?ya4⟩) (.inr hS) ?ra4
  case ya4 => (intro w' _; go_simp; try rfl)
  simp only [Act.put, List.getElem_toArray, List.getElem_cons_succ, List.getElem_cons_zero, List.setIfInBounds_toArray, List.set_cons_zero, List.set_cons_succ]
  refine wpHJ_take (v := ?va5) 5 hFa rfl (by kernel_rfl) (fun _ _ _ h => h.elim) (Or.inl ⟨by rfl, ?ya5⟩) hS ?ra5
  case ya5 => (intro w' hS'; obtain ⟨s3, s4⟩ := hS'; go_simp; try rfl)
  simp only [Act.put, List.getElem_toArray, List.getElem_cons_succ, List.getElem_cons_zero, List.setIfInBounds_toArray, List.set_cons_zero, List.set_cons_succ]
  refine wpHJ_pure (v := ?va6) 6 hFa rfl (by kernel_rfl) (fun _ _ _ h => h.elim) (Or.inl ⟨by rfl, ?ya6⟩) (.inr hS) ?ra6
  case ya6 => (intro w' _; go_simp; try rfl)
  simp only [Act.put, List.getElem_toArray, List.getElem_cons_succ, List.getElem_cons_zero, List.setIfInBounds_toArray, List.set_cons_zero, List.set_cons_succ]
  refine wpHJ_pure (v := ?va7) 7 hFa rfl (by kernel_rfl) (fun _ _ _ h => h.elim) (Or.inl ⟨by rfl, ?ya7⟩) (.inr hS) ?ra7
  case ya7 => (intro w' _; go_simp; try rfl)
  simp only [Act.put, List.getElem_toArray, List.getElem_cons_succ, List.getElem_cons_zero, List.setIfInBounds_toArray, List.set_cons_zero, List.set_cons_succ]
  refine wpHJ_only 8 (by kernel_rfl) rfl ?_
  intro K hK
  go_simp
  refine hK _ _ (.inr (.inr (HST _ 3 (.slice p2 x.B.length c2) hS))) ?_
  clear hK K
  refine wpHJ_pure (v := ?va9) 9 hFa rfl (by kernel_rfl) (fun _ _ _ h => h.elim) (Or.inl ⟨by rfl, ?ya9⟩) (.inr (HST _ 3 (.slice p2 x.B.length c2) hS)) ?ra9
  case ya9 => (intro w' _; go_simp; try rfl)
  simp only [Act.put, List.getElem_toArray, List.getElem_cons_succ, List.getElem_cons_zero, List.setIfInBounds_toArray, List.set_cons_zero, List.set_cons_succ]
  refine wpHJ_pure (v := ?va10) 10 hFa rfl (by kernel_rfl) (fun _ _ _ h => h.elim) (Or.inl ⟨by rfl, ?ya10⟩) (.inr (HST _ 3 (.slice p2 x.B.length c2) hS)) ?ra10
  case ya10 => (intro w' _; go_simp; try rfl)
  simp only [Act.put, List.getElem_toArray, List.getElem_cons_succ, List.getElem_cons_zero, List.setIfInBounds_toArray, List.set_cons_zero, List.set_cons_succ]
  refine wpHJ_only 11 (by kernel_rfl) rfl ?_
  intro K hK
  go_simp
  refine hK _ _ (.inl rfl) ?_
  clear hK K
  refine wpHJ_done (by kernel_rfl) ?_ _
  simp only [onlyN, Exit.then]
  clear hFa
  obtain ⟨w5, hw5⟩ : ∃ W, ((w4.setCell ⟨w3.heap.size, 3, none⟩ (.slice p2 x.B.length c2)).setCell ⟨w3.heap.size, 4, none⟩ (.slice p1 x.A.length c1)).drew = W := ⟨_, rfl⟩
  rw [hw5]
  have hg5 : w5.heap[w3.heap.size]? = some (.cells #[.int .u8 ((turnV x).kind : Int), .int .u8 ((turnV x).reason : Int), .int .i64 (turnV x).level, .slice p2 (turnV x).A.length c2, .slice p1 (turnV x).B.length c1, .bool (turnV x).imp, .bool (turnV x).pol, .int .i64 (turnV x).line, .int .i64 (turnV x).col, .int .i64 (turnV x).err] 35 (0, 0)) := by rw [← hw5]; exact heap_set_cell (heap_set_cell HG4.out _) _
  have hk5 : ∀ j, j ≠ w3.heap.size → w5.heap[j]? = w4.heap[j]? := by intro j hj; rw [← hw5]; exact (Below.heap_setCell _ _ _ _ hj).trans (Below.heap_setCell _ _ _ _ hj)
  have hs5 : w5.heap.size = w4.heap.size := by rw [← hw5]; simp only [World.size_drew, World.size_setCell]
  have hb5 : Below w.heap.size w w5 := by rw [← hw5]; exact ((HB4.out.setCell (p := ⟨w3.heap.size, 3, none⟩) (Nat.le_of_lt HLT.out) _).setCell (p := ⟨w3.heap.size, 4, none⟩) (Nat.le_of_lt HLT.out) _).drew
  have rA : ∀ (p : Option Addr) (cc : Nat) (l : List (List Nat)), NLL (fun i => i < w3.heap.size) w3 (.slice p l.length cc) l → NLL (fun i => i < w5.heap.size) w5 (.slice p l.length cc) l := fun p cc l h => h.keep fun i hi => ⟨by have := HS4.out; omega, (hk5 i (by omega)).trans (HB34.out.block i hi)⟩
  have hx5 : VB w5 (w.heap.size) x p1 c1 p2 c2 := ⟨(hk5 _ (by have := HLT.out; omega)).trans HV4.out.c, rA _ _ _ HX3.out.a, rA _ _ _ HX3.out.b⟩
  have hy5 : VB w5 (w3.heap.size) (turnV x) p2 c2 p1 c1 := ⟨hg5, rA _ _ _ HX3.out.b, rA _ _ _ HX3.out.a⟩
  rw [HY.out] at hy5
  have HX5 := hid hx5; have HY5 := hid hy5; have HB5 := hid hb5
  have HT5 := hid (HT.out.below HB5.out)
  clear hx5 hy5 hg5 hk5 hs5 hb5 rA hw5 x3 x4 y3 y4 f3 f4 HST hS
  have HLYg := hid (HLY.out w3.heap.size)
  clear HLY
  have HLY := HLYg
  go_wp2_with fail
  have hS : (Sx (w.heap.size) x p1 c1 p2 c2) w5.drew := (HX5.out.step (below_self _)).sx
  have hFa : ∀ f, Fence.wide.fn f := fun _ => trivial
  refine (wpIn_wide (n := 9)).1 ?_
  refine wpIn_onlyN ?_
  refine wpIn_region_HJ (Sx (w.heap.size) x p1 c1 p2 c2) 10 (by kernel_rfl) ?_
  simp only [List.size_toArray, List.length_cons, List.length_nil, Nat.reduceAdd]
  refine wpHJ_take (v := ?vb0) 0 hFa rfl (by kernel_rfl) (fun _ _ _ h => h.elim) (Or.inl ⟨by rfl, ?yb0⟩) hS ?rb0
  case yb0 => (intro w' hS'; obtain ⟨s0, s1, s2, s3, s4, s5, s6, s7, s8, s9⟩ := hS'; go_simp; try rfl)
  simp only [Act.put, List.getElem_toArray, List.getElem_cons_succ, List.getElem_cons_zero, List.setIfInBounds_toArray, List.set_cons_zero, List.set_cons_succ]
  refine wpHJ_pure (v := ?vb1) 1 hFa rfl (by kernel_rfl) (fun _ _ _ h => h.elim) (Or.inl ⟨by rfl, ?yb1⟩) (.inr hS) ?rb1
  case yb1 => (intro w' _; go_simp; try rfl)
  simp only [Act.put, List.getElem_toArray, List.getElem_cons_succ, List.getElem_cons_zero, List.setIfInBounds_toArray, List.set_cons_zero, List.set_cons_succ]
  refine wpHJ_pure (v := ?vb3) 3 hFa rfl (by kernel_rfl) (fun _ _ _ h => h.elim) (Or.inl ⟨by rfl, ?yb3⟩) (.inr hS) ?rb3
  case yb3 => (intro w' _; go_simp; try rfl)
  simp only [Act.put, List.getElem_toArray, List.getElem_cons_succ, List.getElem_cons_zero, List.setIfInBounds_toArray, List.set_cons_zero, List.set_cons_succ]
  clear hS
  have hbd := below_self w5
  have hvd := HX5.out.step hbd
  have htd := HT5.out.below hbd
  generalize w5.drew = wd3 at *
  have HX5d := hid hvd; have HBd := hid hbd; have HTd := hid htd
  clear hvd hbd htd
  refine wpHJ_only 2 (by kernel_rfl) rfl ?_
  intro K hK
  go_simp
  (with_reducible refine (callsIn_wide.2 (HNM.out wd3)).mono ?_)
  rintro e wd3a ⟨hba, pm, cm, rfl, hsm⟩
  have HBA := hid hba; have HSM := hid hsm
  clear hba hsm
  refine hK _ _ (.inr (.inr (HX5d.out.step HBA.out).sx)) ?_
  clear hK K
  refine wpHJ_only 4 (by kernel_rfl) rfl ?_
  intro K hK
  go_simp
  (with_reducible refine (callsIn_wide.2 (HNC.out wd3a)).mono ?_)
  rintro e wd3b ⟨hbb, pn, cn, rfl, hsn⟩
  have HBB := hid hbb; have HSN := hid hsn
  clear hbb hsn
  refine hK _ _ (.inr (.inr ((HX5d.out.step HBA.out).step HBB.out).sx)) ?_
  clear hK K
  refine wpHJ_only 5 (by kernel_rfl) rfl ?_
  intro K hK
  go_simp
  (with_reducible refine (callsIn_wide.2 (HLX.out _ _ _ _ _ _ _ ((HX5d.out.step HBA.out).step HBB.out) (HSM.out.keep fun i hi => ⟨Nat.lt_of_lt_of_le hi HBB.out.size, HBB.out.block i hi⟩) HSN.out ((HTd.out.below HBA.out).below HBB.out))).mono ?_)
  rintro e w6 ⟨hbc, pl1, cl1, rfl, hsl⟩
  have hbo := HBd.out.trans ((HBA.out.trans (HBB.out.mono HBA.out.size)).trans (hbc.mono (Nat.le_trans HBA.out.size HBB.out.size)) |>.mono HBd.out.size)
  have HBO := hid hbo; have HSL1 := hid hsl
  clear hbc hsl hbo
  refine hK _ _ (.inr (.inr (HX5.out.step HBO.out).sx)) ?_
  clear hK K
  refine wpHJ_pure (v := ?vb6) 6 hFa rfl (by kernel_rfl) (fun _ _ _ h => h.elim) (Or.inl ⟨by rfl, ?yb6⟩) (.inr (HX5.out.step HBO.out).sx) ?rb6
  case yb6 => (intro w' _; go_simp; try rfl)
  simp only [Act.put, List.getElem_toArray, List.getElem_cons_succ, List.getElem_cons_zero, List.setIfInBounds_toArray, List.set_cons_zero, List.set_cons_succ]
  refine wpHJ_pure (v := ?vb7) 7 hFa rfl (by kernel_rfl) (fun _ _ _ h => h.elim) (Or.inl ⟨by rfl, ?yb7⟩) (.inr (HX5.out.step HBO.out).sx) ?rb7
  case yb7 => (intro w' _; go_simp; try rfl)
  simp only [Act.put, List.getElem_toArray, List.getElem_cons_succ, List.getElem_cons_zero, List.setIfInBounds_toArray, List.set_cons_zero, List.set_cons_succ]
  refine wpHJ_pure (v := ?vb8) 8 hFa rfl (by kernel_rfl) (fun _ _ _ h => h.elim) (Or.inl ⟨by rfl, ?yb8⟩) (.inr (HX5.out.step HBO.out).sx) ?rb8
  case yb8 => (intro w' _; go_simp; try rfl)
  simp only [Act.put, List.getElem_toArray, List.getElem_cons_succ, List.getElem_cons_zero, List.setIfInBounds_toArray, List.set_cons_zero, List.set_cons_succ]
  refine wpHJ_pure (v := ?vb9) 9 hFa rfl (by kernel_rfl) (fun _ _ _ h => h.elim) (Or.inl ⟨by rfl, ?yb9⟩) (.inr (HX5.out.step HBO.out).sx) ?rb9
  case yb9 => (intro w' _; go_simp; try rfl)
  simp only [Act.put, List.getElem_toArray, List.getElem_cons_succ, List.getElem_cons_zero, List.setIfInBounds_toArray, List.set_cons_zero, List.set_cons_succ]
  refine wpHJ_only 10 (by kernel_rfl) rfl ?_
  intro K hK
  go_simp
  refine hK _ _ (.inl rfl) ?_
  clear hK K
  refine wpHJ_done (by kernel_rfl) ?_ _
  simp only [onlyN, Exit.then]
  clear hFa
  have HX6 := hid (HX5.out.step HBO.out)
  have HY6 := hid (HY5.out.step HBO.out)
  have HT6 := hid (HT5.out.below HBO.out)
  have HB6 := hid (HB5.out.trans (HBO.out.mono HB5.out.size))
  clear HBO HBA HBB HBd HX5d HTd
  go_wp2_with fail
  have hS : (Sx (w3.heap.size) y p2 c2 p1 c1) w6.drew := (HY6.out.step (below_self _)).sx
  have hFa : ∀ f, Fence.wide.fn f := fun _ => trivial
  refine (wpIn_wide (n := 9)).1 ?_
  refine wpIn_onlyN ?_
  refine wpIn_region_HJ (Sx (w3.heap.size) y p2 c2 p1 c1) 10 (by kernel_rfl) ?_
  simp only [List.size_toArray, List.length_cons, List.length_nil, Nat.reduceAdd]
  refine wpHJ_take (v := ?vc0) 0 hFa rfl (by kernel_rfl) (fun _ _ _ h => h.elim) (Or.inl ⟨by rfl, ?yc0⟩) hS ?rc0
  case yc0 => (intro w' hS'; obtain ⟨s0, s1, s2, s3, s4, s5, s6, s7, s8, s9⟩ := hS'; go_simp; try rfl)
  simp only [Act.put, List.getElem_toArray, List.getElem_cons_succ, List.getElem_cons_zero, List.setIfInBounds_toArray, List.set_cons_zero, List.set_cons_succ]
  refine wpHJ_pure (v := ?vc1) 1 hFa rfl (by kernel_rfl) (fun _ _ _ h => h.elim) (Or.inl ⟨by rfl, ?yc1⟩) (.inr hS) ?rc1
  case yc1 => (intro w' _; go_simp; try rfl)
  simp only [Act.put, List.getElem_toArray, List.getElem_cons_succ, List.getElem_cons_zero, List.setIfInBounds_toArray, List.set_cons_zero, List.set_cons_succ]
  refine wpHJ_pure (v := ?vc3) 3 hFa rfl (by kernel_rfl) (fun _ _ _ h => h.elim) (Or.inl ⟨by rfl, ?yc3⟩) (.inr hS) ?rc3
  case yc3 => (intro w' _; go_simp; try rfl)
  simp only [Act.put, List.getElem_toArray, List.getElem_cons_succ, List.getElem_cons_zero, List.setIfInBounds_toArray, List.set_cons_zero, List.set_cons_succ]
  clear hS
  have hbd := below_self w6
  have hvd := HY6.out.step hbd
  have htd := HT6.out.below hbd
  generalize w6.drew = wd4 at *
  have HY6d := hid hvd; have HBd := hid hbd; have HTd := hid htd
  clear hvd hbd htd
  refine wpHJ_only 2 (by kernel_rfl) rfl ?_
  intro K hK
  go_simp
  (with_reducible refine (callsIn_wide.2 (HNM.out wd4)).mono ?_)
  rintro e wd4a ⟨hba, pm, cm, rfl, hsm⟩
  have HBA := hid hba; have HSM := hid hsm
  clear hba hsm
  refine hK _ _ (.inr (.inr (HY6d.out.step HBA.out).sx)) ?_
  clear hK K
  refine wpHJ_only 4 (by kernel_rfl) rfl ?_
  intro K hK
  go_simp
  (with_reducible refine (callsIn_wide.2 (HNC.out wd4a)).mono ?_)
  rintro e wd4b ⟨hbb, pn, cn, rfl, hsn⟩
  have HBB := hid hbb; have HSN := hid hsn
  clear hbb hsn
  refine hK _ _ (.inr (.inr ((HY6d.out.step HBA.out).step HBB.out).sx)) ?_
  clear hK K
  refine wpHJ_only 5 (by kernel_rfl) rfl ?_
  intro K hK
  go_simp
  (with_reducible refine (callsIn_wide.2 (HLY.out _ _ _ _ _ _ _ ((HY6d.out.step HBA.out).step HBB.out) (HSM.out.keep fun i hi => ⟨Nat.lt_of_lt_of_le hi HBB.out.size, HBB.out.block i hi⟩) HSN.out ((HTd.out.below HBA.out).below HBB.out))).mono ?_)
  rintro e w7 ⟨hbc, pl2, cl2, rfl, hsl⟩
  have hbo := HBd.out.trans ((HBA.out.trans (HBB.out.mono HBA.out.size)).trans (hbc.mono (Nat.le_trans HBA.out.size HBB.out.size)) |>.mono HBd.out.size)
  have HBO := hid hbo; have HSL2 := hid hsl
  clear hbc hsl hbo
  refine hK _ _ (.inr (.inr (HY6.out.step HBO.out).sx)) ?_
  clear hK K
  refine wpHJ_pure (v := ?vc6) 6 hFa rfl (by kernel_rfl) (fun _ _ _ h => h.elim) (Or.inl ⟨by rfl, ?yc6⟩) (.inr (HY6.out.step HBO.out).sx) ?rc6
  case yc6 => (intro w' _; go_simp; try rfl)
  simp only [Act.put, List.getElem_toArray, List.getElem_cons_succ, List.getElem_cons_zero, List.setIfInBounds_toArray, List.set_cons_zero, List.set_cons_succ]
  refine wpHJ_pure (v := ?vc7) 7 hFa rfl (by kernel_rfl) (fun _ _ _ h => h.elim) (Or.inl ⟨by rfl, ?yc7⟩) (.inr (HY6.out.step HBO.out).sx) ?rc7
  case yc7 => (intro w' _; go_simp; try rfl)
  simp only [Act.put, List.getElem_toArray, List.getElem_cons_succ, List.getElem_cons_zero, List.setIfInBounds_toArray, List.set_cons_zero, List.set_cons_succ]
  refine wpHJ_pure (v := ?vc8) 8 hFa rfl (by kernel_rfl) (fun _ _ _ h => h.elim) (Or.inl ⟨by rfl, ?yc8⟩) (.inr (HY6.out.step HBO.out).sx) ?rc8
  case yc8 => (intro w' _; go_simp; try rfl)
  simp only [Act.put, List.getElem_toArray, List.getElem_cons_succ, List.getElem_cons_zero, List.setIfInBounds_toArray, List.set_cons_zero, List.set_cons_succ]
  refine wpHJ_pure (v := ?vc9) 9 hFa rfl (by kernel_rfl) (fun _ _ _ h => h.elim) (Or.inl ⟨by rfl, ?yc9⟩) (.inr (HY6.out.step HBO.out).sx) ?rc9
  case yc9 => (intro w' _; go_simp; try rfl)
  simp only [Act.put, List.getElem_toArray, List.getElem_cons_succ, List.getElem_cons_zero, List.setIfInBounds_toArray, List.set_cons_zero, List.set_cons_succ]
  refine wpHJ_only 10 (by kernel_rfl) rfl ?_
  intro K hK
  go_simp
  refine hK _ _ (.inl rfl) ?_
  clear hK K
  refine wpHJ_done (by kernel_rfl) ?_ _
  simp only [onlyN, Exit.then]
  clear hFa
  have HT7 := hid (HT6.out.below HBO.out)
  have HB7 := hid (HB6.out.trans (HBO.out.mono HB6.out.size))
  have hs1 : Strs (fun i => i < w7.heap.size) w7 (.slice pl1 l1.length cl1) l1 := HSL1.out.keep fun i hi => ⟨Nat.lt_of_lt_of_le hi HBO.out.size, HBO.out.block i hi⟩
  obtain ⟨pl, cl, el, _, _, _, hrl⟩ := hs1.op
  have epl : pl1 = pl := by injection el
  subst epl
  clear el
  obtain ⟨pm2, cl', el, _, _, _, hrm⟩ := HSL2.out.op
  have epl : pl2 = pm2 := by injection el
  subst epl
  clear el
  obtain ⟨ba, oa, rfl, hRa, hca⟩ := hrl.atS 0 (by rw [HN1.out]; omega)
  obtain ⟨bb, ob, rfl, hRb, hcb⟩ := hrm.atS 0 (by rw [HN2.out]; omega)
  have u1 : w7.cell? ⟨ba, oa, none⟩ = some (.string ⟨z.toArray⟩) := by
    have h := hca 0 (by rw [HN1.out]; omega)
    have e : l1[0]'(by rw [HN1.out]; omega) = z := by have := G1.out; simp [this]
    rw [e] at h; exact h
  have u2 : w7.cell? ⟨bb, ob, none⟩ = some (.string ⟨z.toArray⟩) := by
    have h := hcb 0 (by rw [HN2.out]; omega)
    have e : l2[0]'(by rw [HN2.out]; omega) = z := by have := G2.out; simp [this]
    rw [e] at h; exact h
  have HCA := hid hca; have HCB := hid hcb; have HRA := hid hRa; have HRB := hid hRb
  have hn1 : (l1.length : Int) = 1 + 2 * (n : Int) := by rw [HN1.out]; omega
  have hn2 : (l2.length : Int) = 1 + 2 * (n : Int) := by rw [HN2.out]; omega
  have hz1 : ¬ l1.length = 0 := by rw [HN1.out]; omega
  have hz2 : ¬ l2.length = 0 := by rw [HN2.out]; omega
  have hse2 : (z == z) = true := by simp
  have hpos : (0 : Int) < 1 + 2 * (n : Int) := by omega
  clear hs1 hrl hrm hRa hRb hca hcb HBO HBA HBB HBd HY6d HTd
  go_wp2_with fail
  have hS : (fun W : World => W.cell? ⟨ba, oa, none⟩ = some (.string ⟨z.toArray⟩) ∧ W.cell? ⟨bb, ob, none⟩ = some (.string ⟨z.toArray⟩)) w7.drew := ⟨u1, u2⟩
  have hw0 : IntKind.i64.wrap (1 + IntKind.i64.wrap (2 * (n : Int))) = 1 + 2 * (n : Int) := by rw [show IntKind.i64.wrap (2 * (n : Int)) = 2 * (n : Int) from IntWalk.i64_in _ (by omega)]; exact IntWalk.i64_in _ (by omega)
  have hw1 : IntKind.i64.wrap (2 * (n : Int)) = 2 * (n : Int) := IntWalk.i64_in _ (by omega)
  have hw2 : IntKind.i64.wrap (1 + 2 * (n : Int)) = 1 + 2 * (n : Int) := IntWalk.i64_in _ (by omega)
  have hFa : ∀ f, Fence.wide.fn f := fun _ => trivial
  refine (wpIn_wide (n := 9)).1 ?_
  refine wpIn_onlyN ?_
  refine wpIn_region_HJ (fun W : World => W.cell? ⟨ba, oa, none⟩ = some (.string ⟨z.toArray⟩) ∧ W.cell? ⟨bb, ob, none⟩ = some (.string ⟨z.toArray⟩)) 30 (by kernel_rfl) ?_
  simp only [List.size_toArray, List.length_cons, List.length_nil, Nat.reduceAdd]
  refine wpHJ_take (v := ?vd0) 0 hFa rfl (by kernel_rfl) (fun _ _ _ h => h.elim) (Or.inl ⟨by rfl, ?yd0⟩) hS ?rd0
  case yd0 => (intro w' hS'; obtain ⟨s1, s2⟩ := hS'; go_simp; try rfl)
  simp only [Act.put, List.getElem_toArray, List.getElem_cons_succ, List.getElem_cons_zero, List.setIfInBounds_toArray, List.set_cons_zero, List.set_cons_succ]
  refine wpHJ_take (v := ?vd1) 1 hFa rfl (by kernel_rfl) (fun _ _ _ h => h.elim) (Or.inl ⟨by rfl, ?yd1⟩) hS ?rd1
  case yd1 => (intro w' hS'; obtain ⟨s1, s2⟩ := hS'; go_simp; try rfl)
  simp only [Act.put, List.getElem_toArray, List.getElem_cons_succ, List.getElem_cons_zero, List.setIfInBounds_toArray, List.set_cons_zero, List.set_cons_succ]
  refine wpHJ_take (v := ?vd2) 2 hFa rfl (by kernel_rfl) (fun _ _ _ h => h.elim) (Or.inl ⟨by rfl, ?yd2⟩) hS ?rd2
  case yd2 => (intro w' hS'; obtain ⟨s1, s2⟩ := hS'; go_simp; try rfl)
  simp only [Act.put, List.getElem_toArray, List.getElem_cons_succ, List.getElem_cons_zero, List.setIfInBounds_toArray, List.set_cons_zero, List.set_cons_succ]
  refine wpHJ_take (v := ?vd3) 3 hFa rfl (by kernel_rfl) (fun _ _ _ h => h.elim) (Or.inl ⟨by simp [Region.wanted, yielded], ?yd3⟩) hS ?rd3
  case yd3 => (intro w' hS'; obtain ⟨s1, s2⟩ := hS'; go_simp; try rfl)
  simp only [Act.put, List.getElem_toArray, List.getElem_cons_succ, List.getElem_cons_zero, List.setIfInBounds_toArray, List.set_cons_zero, List.set_cons_succ]
  refine wpHJ_take (v := ?vd4) 4 hFa rfl (by kernel_rfl) (fun _ _ _ h => h.elim) (Or.inl ⟨by simp [Region.wanted, yielded], ?yd4⟩) hS ?rd4
  case yd4 => (intro w' hS'; obtain ⟨s1, s2⟩ := hS'; go_simp; try rfl)
  simp only [Act.put, List.getElem_toArray, List.getElem_cons_succ, List.getElem_cons_zero, List.setIfInBounds_toArray, List.set_cons_zero, List.set_cons_succ]
  refine wpHJ_take (v := ?vd5) 5 hFa rfl (by kernel_rfl) (fun _ _ _ h => h.elim) (Or.inl ⟨by rfl, ?yd5⟩) hS ?rd5
  case yd5 => (intro w' hS'; obtain ⟨s1, s2⟩ := hS'; go_simp; try rfl)
  simp only [Act.put, List.getElem_toArray, List.getElem_cons_succ, List.getElem_cons_zero, List.setIfInBounds_toArray, List.set_cons_zero, List.set_cons_succ]
  refine wpHJ_take (v := ?vd6) 6 hFa rfl (by kernel_rfl) (fun _ _ _ h => h.elim) (Or.inl ⟨by rfl, ?yd6⟩) hS ?rd6
  case yd6 => (intro w' hS'; obtain ⟨s1, s2⟩ := hS'; go_simp; try rfl)
  simp only [Act.put, List.getElem_toArray, List.getElem_cons_succ, List.getElem_cons_zero, List.setIfInBounds_toArray, List.set_cons_zero, List.set_cons_succ]
  refine wpHJ_take (v := ?vd7) 7 hFa rfl (by kernel_rfl) (fun _ _ _ h => h.elim) (Or.inl ⟨by simp [Region.wanted, yielded], ?yd7⟩) hS ?rd7
  case yd7 => (intro w' hS'; obtain ⟨s1, s2⟩ := hS'; go_simp; try rfl)
  simp only [Act.put, List.getElem_toArray, List.getElem_cons_succ, List.getElem_cons_zero, List.setIfInBounds_toArray, List.set_cons_zero, List.set_cons_succ]
  refine wpHJ_take (v := ?vd8) 8 hFa rfl (by kernel_rfl) (fun _ _ _ h => h.elim) (Or.inl ⟨by simp [Region.wanted, yielded], ?yd8⟩) hS ?rd8
  case yd8 => (intro w' hS'; obtain ⟨s1, s2⟩ := hS'; go_simp; try rfl)
  simp only [Act.put, List.getElem_toArray, List.getElem_cons_succ, List.getElem_cons_zero, List.setIfInBounds_toArray, List.set_cons_zero, List.set_cons_succ]
  refine wpHJ_take (v := ?vd9) 9 hFa rfl (by kernel_rfl) (fun _ _ _ h => h.elim) (Or.inl ⟨by simp [Region.wanted, yielded], ?yd9⟩) hS ?rd9
  case yd9 => (intro w' hS'; obtain ⟨s1, s2⟩ := hS'; go_simp; try rfl)
  simp only [Act.put, List.getElem_toArray, List.getElem_cons_succ, List.getElem_cons_zero, List.setIfInBounds_toArray, List.set_cons_zero, List.set_cons_succ]
  refine wpHJ_take (v := ?vd10) 10 hFa rfl (by kernel_rfl) (fun _ _ _ h => h.elim) (Or.inl ⟨by simp [Region.wanted, yielded], ?yd10⟩) hS ?rd10
  case yd10 => (intro w' hS'; obtain ⟨s1, s2⟩ := hS'; go_simp; try rfl)
  simp only [Act.put, List.getElem_toArray, List.getElem_cons_succ, List.getElem_cons_zero, List.setIfInBounds_toArray, List.set_cons_zero, List.set_cons_succ]
  refine wpHJ_take (v := ?vd11) 11 hFa rfl (by kernel_rfl) (fun _ _ _ h => h.elim) (Or.inl ⟨by simp [Region.wanted, yielded], ?yd11⟩) hS ?rd11
  case yd11 => (intro w' hS'; obtain ⟨s1, s2⟩ := hS'; go_simp; try rfl)
  simp only [Act.put, List.getElem_toArray, List.getElem_cons_succ, List.getElem_cons_zero, List.setIfInBounds_toArray, List.set_cons_zero, List.set_cons_succ]
  refine wpHJ_take (v := ?vd12) 12 hFa rfl (by kernel_rfl) (fun _ _ _ h => h.elim) (Or.inl ⟨by simp [Region.wanted, yielded], ?yd12⟩) hS ?rd12
  case yd12 => (intro w' hS'; obtain ⟨s1, s2⟩ := hS'; go_simp; try rfl)
  simp only [Act.put, List.getElem_toArray, List.getElem_cons_succ, List.getElem_cons_zero, List.setIfInBounds_toArray, List.set_cons_zero, List.set_cons_succ]
  refine wpHJ_take (v := ?vd13) 13 hFa rfl (by kernel_rfl) (fun _ _ _ h => h.elim) (Or.inl ⟨by rfl, ?yd13⟩) hS ?rd13
  case yd13 => (intro w' hS'; obtain ⟨s1, s2⟩ := hS'; go_simp; try rfl)
  simp only [Act.put, List.getElem_toArray, List.getElem_cons_succ, List.getElem_cons_zero, List.setIfInBounds_toArray, List.set_cons_zero, List.set_cons_succ]
  refine wpHJ_take (v := ?vd14) 14 hFa rfl (by kernel_rfl) (fun _ _ _ h => h.elim) (Or.inl ⟨by rfl, ?yd14⟩) hS ?rd14
  case yd14 => (intro w' hS'; obtain ⟨s1, s2⟩ := hS'; go_simp; try rfl)
  simp only [Act.put, List.getElem_toArray, List.getElem_cons_succ, List.getElem_cons_zero, List.setIfInBounds_toArray, List.set_cons_zero, List.set_cons_succ]
  refine wpHJ_take (v := ?vd15) 15 hFa rfl (by kernel_rfl) (fun _ _ _ h => h.elim) (Or.inl ⟨by simp [Region.wanted, yielded], ?yd15⟩) hS ?rd15
  case yd15 => (intro w' hS'; obtain ⟨s1, s2⟩ := hS'; go_simp; try rfl)
  simp only [Act.put, List.getElem_toArray, List.getElem_cons_succ, List.getElem_cons_zero, List.setIfInBounds_toArray, List.set_cons_zero, List.set_cons_succ]
  refine wpHJ_take (v := ?vd16) 16 hFa rfl (by kernel_rfl) (fun _ _ _ h => h.elim) (Or.inl ⟨by simp [Region.wanted, yielded], ?yd16⟩) hS ?rd16
  case yd16 => (intro w' hS'; obtain ⟨s1, s2⟩ := hS'; go_simp; try rfl)
  simp only [Act.put, List.getElem_toArray, List.getElem_cons_succ, List.getElem_cons_zero, List.setIfInBounds_toArray, List.set_cons_zero, List.set_cons_succ]
  refine wpHJ_take (v := ?vd17) 17 hFa rfl (by kernel_rfl) (fun _ _ _ h => h.elim) (Or.inl ⟨by simp [Region.wanted, yielded], ?yd17⟩) hS ?rd17
  case yd17 => (intro w' hS'; obtain ⟨s1, s2⟩ := hS'; go_simp; try rfl)
  simp only [Act.put, List.getElem_toArray, List.getElem_cons_succ, List.getElem_cons_zero, List.setIfInBounds_toArray, List.set_cons_zero, List.set_cons_succ]
  refine wpHJ_take (v := ?vd18) 18 hFa rfl (by kernel_rfl) (fun _ _ _ h => h.elim) (Or.inl ⟨by simp [Region.wanted, yielded], ?yd18⟩) hS ?rd18
  case yd18 => (intro w' hS'; obtain ⟨s1, s2⟩ := hS'; go_simp; try rfl)
  simp only [Act.put, List.getElem_toArray, List.getElem_cons_succ, List.getElem_cons_zero, List.setIfInBounds_toArray, List.set_cons_zero, List.set_cons_succ]
  refine wpHJ_take (v := ?vd19) 19 hFa rfl (by kernel_rfl) (fun _ _ _ h => h.elim) (Or.inl ⟨by simp [Region.wanted, yielded], ?yd19⟩) hS ?rd19
  case yd19 => (intro w' hS'; obtain ⟨s1, s2⟩ := hS'; go_simp; try rfl)
  simp only [Act.put, List.getElem_toArray, List.getElem_cons_succ, List.getElem_cons_zero, List.setIfInBounds_toArray, List.set_cons_zero, List.set_cons_succ]
  refine wpHJ_take (v := ?vd20) 20 hFa rfl (by kernel_rfl) (fun _ _ _ h => h.elim) (Or.inl ⟨by rfl, ?yd20⟩) hS ?rd20
  case yd20 => (intro w' hS'; obtain ⟨s1, s2⟩ := hS'; go_simp; try rfl)
  simp only [Act.put, List.getElem_toArray, List.getElem_cons_succ, List.getElem_cons_zero, List.setIfInBounds_toArray, List.set_cons_zero, List.set_cons_succ]
  refine wpHJ_take (v := ?vd21) 21 hFa rfl (by kernel_rfl) (fun _ _ _ h => h.elim) (Or.inl ⟨by rfl, ?yd21⟩) hS ?rd21
  case yd21 => (intro w' hS'; obtain ⟨s1, s2⟩ := hS'; go_simp; try rfl)
  simp only [Act.put, List.getElem_toArray, List.getElem_cons_succ, List.getElem_cons_zero, List.setIfInBounds_toArray, List.set_cons_zero, List.set_cons_succ]
  refine wpHJ_take (v := ?vd22) 22 hFa rfl (by kernel_rfl) (fun _ _ _ h => h.elim) (Or.inl ⟨by simp [Region.wanted, yielded], ?yd22⟩) hS ?rd22
  case yd22 => (intro w' hS'; obtain ⟨s1, s2⟩ := hS'; go_simp; try rfl)
  simp only [Act.put, List.getElem_toArray, List.getElem_cons_succ, List.getElem_cons_zero, List.setIfInBounds_toArray, List.set_cons_zero, List.set_cons_succ]
  refine wpHJ_take (v := ?vd23) 23 hFa rfl (by kernel_rfl) (fun _ _ _ h => h.elim) (Or.inl ⟨by simp [Region.wanted, yielded], ?yd23⟩) hS ?rd23
  case yd23 => (intro w' hS'; obtain ⟨s1, s2⟩ := hS'; go_simp; try rfl)
  simp only [Act.put, List.getElem_toArray, List.getElem_cons_succ, List.getElem_cons_zero, List.setIfInBounds_toArray, List.set_cons_zero, List.set_cons_succ]
  refine wpHJ_take (v := ?vd24) 24 hFa rfl (by kernel_rfl) (fun _ _ _ h => h.elim) (Or.inl ⟨by simp [Region.wanted, yielded], ?yd24⟩) hS ?rd24
  case yd24 => (intro w' hS'; obtain ⟨s1, s2⟩ := hS'; go_simp; try rfl)
  simp only [Act.put, List.getElem_toArray, List.getElem_cons_succ, List.getElem_cons_zero, List.setIfInBounds_toArray, List.set_cons_zero, List.set_cons_succ]
  refine wpHJ_take (v := ?vd25) 25 hFa rfl (by kernel_rfl) (fun _ _ _ h => h.elim) (Or.inl ⟨by simp [Region.wanted, yielded], ?yd25⟩) hS ?rd25
  case yd25 => (intro w' hS'; obtain ⟨s1, s2⟩ := hS'; go_simp; try rfl)
  simp only [Act.put, List.getElem_toArray, List.getElem_cons_succ, List.getElem_cons_zero, List.setIfInBounds_toArray, List.set_cons_zero, List.set_cons_succ]
  refine wpHJ_take (v := ?vd26) 26 hFa rfl (by kernel_rfl) (fun _ _ _ h => h.elim) (Or.inl ⟨by simp [Region.wanted, yielded], ?yd26⟩) hS ?rd26
  case yd26 => (intro w' hS'; obtain ⟨s1, s2⟩ := hS'; go_simp; try rfl)
  simp only [Act.put, List.getElem_toArray, List.getElem_cons_succ, List.getElem_cons_zero, List.setIfInBounds_toArray, List.set_cons_zero, List.set_cons_succ]
  refine wpHJ_take (v := ?vd27) 27 hFa rfl (by kernel_rfl) (fun _ _ _ h => h.elim) (Or.inl ⟨by simp [Region.wanted, yielded], ?yd27⟩) hS ?rd27
  case yd27 => (intro w' hS'; obtain ⟨s1, s2⟩ := hS'; go_simp; try rfl)
  simp only [Act.put, List.getElem_toArray, List.getElem_cons_succ, List.getElem_cons_zero, List.setIfInBounds_toArray, List.set_cons_zero, List.set_cons_succ]
  refine wpHJ_take (v := ?vd28) 28 hFa rfl (by kernel_rfl) (fun _ _ _ h => h.elim) (Or.inl ⟨by simp [Region.wanted, yielded], ?yd28⟩) hS ?rd28
  case yd28 => (intro w' hS'; obtain ⟨s1, s2⟩ := hS'; go_simp; try rfl)
  simp only [Act.put, List.getElem_toArray, List.getElem_cons_succ, List.getElem_cons_zero, List.setIfInBounds_toArray, List.set_cons_zero, List.set_cons_succ]
  refine wpHJ_only 29 (by kernel_rfl) rfl ?_
  intro K hK
  go_simp
  refine hK _ _ (.inr (.inr hS)) ?_
  clear hK K
  refine wpHJ_done (by kernel_rfl) ?_ _
  simp only [onlyN, Exit.then]
  clear hFa
  clear hw0 hw1 hw2
  go_wp2_with fail
  have HB8 := hid (show Below w7.heap.size w7 w7.drew from below_self w7)
  generalize w7.drew = w8 at *
  have hl63 : (l1.length : Int) ≤ 9 := by omega
  have HL63 := hid hl63
  clear hpos hn1 hn2 hz1 hz2 hS u1 u2 hl63
  go_loopw [12] (fun iv W => ∃ j i : Nat, i = 1 + 2 * j ∧ j ≤ n ∧ iv = .int .i64 (i : Int) ∧ Below w7.heap.size w7 W) (fun iv _ => 1 + 2 * n - (intOf iv).toNat)
  case atStart => exact ⟨0, 1, rfl, Nat.zero_le _, rfl, HB8.out⟩
  case round =>
    obtain ⟨j, i, hij, hj, rfl, hb⟩ := hrel
    obtain ⟨wo, rfl⟩ : ∃ wo : World, wo = wr := ⟨_, rfl⟩
    have HBW := hid hb
    have HIJ := hid hij
    have hi9 : i ≤ 9 := by omega
    have hwi : IntKind.i64.wrap ((i : Int) + 1) = (i : Int) + 1 := IntWalk.i64_in _ (by omega)
    clear hb hij
    by_cases hlt : j < n
    · obtain ⟨s1, s2, s3, s4, t, t', e1, e3, e4, e2, k1, k2, k3, k4, k5, k6⟩ := G5.out j hlt
      have h1 : i < l1.length := by rw [HN1.out, HIJ.out]; omega
      have h2 : i + 1 < l1.length := by rw [HN1.out, HIJ.out]; omega
      have h3 : i < l2.length := by rw [HN2.out, HIJ.out]; omega
      have h4 : i + 1 < l2.length := by rw [HN2.out, HIJ.out]; omega
      have a1 : l1[i] = s1 := by
        have : l1[i]? = some s1 := by rw [G1.out, HIJ.out, Nat.add_comm 1, List.getElem?_cons_succ]; exact e1
        rw [List.getElem?_eq_getElem h1] at this; injection this
      have a3 : l1[i + 1] = s3 := by
        have : l1[i + 1]? = some s3 := by rw [G1.out, HIJ.out, Nat.add_comm 1, List.getElem?_cons_succ]; exact e3
        rw [List.getElem?_eq_getElem h2] at this; injection this
      have a4 : l2[i] = s4 := by
        have : l2[i]? = some s4 := by rw [G2.out, HIJ.out, Nat.add_comm 1, List.getElem?_cons_succ]; exact e4
        rw [List.getElem?_eq_getElem h3] at this; injection this
      have a2 : l2[i + 1] = s2 := by
        have : l2[i + 1]? = some s2 := by rw [G2.out, HIJ.out, Nat.add_comm 1, List.getElem?_cons_succ]; exact e2
        rw [List.getElem?_eq_getElem h4] at this; injection this
      have d1 := (HBW.out.cell (p := ⟨ba, oa + i, none⟩) HRA.out).trans (HCA.out i h1)
      have d3 := (HBW.out.cell (p := ⟨ba, oa + (i + 1), none⟩) HRA.out).trans (HCA.out (i + 1) h2)
      have d4 := (HBW.out.cell (p := ⟨bb, ob + i, none⟩) HRB.out).trans (HCB.out i h3)
      have d2 := (HBW.out.cell (p := ⟨bb, ob + (i + 1), none⟩) HRB.out).trans (HCB.out (i + 1) h4)
      rw [a1] at d1
      rw [a3] at d3
      rw [a4] at d4
      rw [a2] at d2
      have HT1 := hid (fun W => show Calls Tryd.prog 20 #[.string ⟨s1.toArray⟩, .string ⟨#[102, 105, 114, 115, 116, 32]⟩] W fun e w' => e = .returned (.string ⟨t.toArray⟩) ∧ w' = W from by
        have h := Tryd.strings_TrimPrefix ⟨s1.toArray⟩ ⟨#[102, 105, 114, 115, 116, 32]⟩ W
        have e : Lib.trimPrefix (⟨s1.toArray⟩ : ByteArray).data.toList (⟨#[102, 105, 114, 115, 116, 32]⟩ : ByteArray).data.toList = t := k1
        rw [e] at h; exact h)
      have HT2 := hid (fun W => show Calls Tryd.prog 20 #[.string ⟨s2.toArray⟩, .string ⟨#[115, 101, 99, 111, 110, 100, 32]⟩] W fun e w' => e = .returned (.string ⟨t.toArray⟩) ∧ w' = W from by
        have h := Tryd.strings_TrimPrefix ⟨s2.toArray⟩ ⟨#[115, 101, 99, 111, 110, 100, 32]⟩ W
        have e : Lib.trimPrefix (⟨s2.toArray⟩ : ByteArray).data.toList (⟨#[115, 101, 99, 111, 110, 100, 32]⟩ : ByteArray).data.toList = t := k2
        rw [e] at h; exact h)
      have HT3 := hid (fun W => show Calls Tryd.prog 20 #[.string ⟨s3.toArray⟩, .string ⟨#[115, 101, 99, 111, 110, 100, 32]⟩] W fun e w' => e = .returned (.string ⟨t'.toArray⟩) ∧ w' = W from by
        have h := Tryd.strings_TrimPrefix ⟨s3.toArray⟩ ⟨#[115, 101, 99, 111, 110, 100, 32]⟩ W
        have e : Lib.trimPrefix (⟨s3.toArray⟩ : ByteArray).data.toList (⟨#[115, 101, 99, 111, 110, 100, 32]⟩ : ByteArray).data.toList = t' := k3
        rw [e] at h; exact h)
      have HT4 := hid (fun W => show Calls Tryd.prog 20 #[.string ⟨s4.toArray⟩, .string ⟨#[102, 105, 114, 115, 116, 32]⟩] W fun e w' => e = .returned (.string ⟨t'.toArray⟩) ∧ w' = W from by
        have h := Tryd.strings_TrimPrefix ⟨s4.toArray⟩ ⟨#[102, 105, 114, 115, 116, 32]⟩ W
        have e : Lib.trimPrefix (⟨s4.toArray⟩ : ByteArray).data.toList (⟨#[102, 105, 114, 115, 116, 32]⟩ : ByteArray).data.toList = t' := k4
        rw [e] at h; exact h)
      have HP1 := hid (fun W => show Calls Tryd.prog 21 #[.string ⟨s1.toArray⟩, .string ⟨#[102, 105, 114, 115, 116, 32]⟩] W fun e w' => e = .returned (.bool true) ∧ w' = W from by
        have h := Tryd.strings_HasPrefix ⟨s1.toArray⟩ ⟨#[102, 105, 114, 115, 116, 32]⟩ W
        have e : Lib.hasPrefix (⟨s1.toArray⟩ : ByteArray).data.toList (⟨#[102, 105, 114, 115, 116, 32]⟩ : ByteArray).data.toList = true := k5
        rw [e] at h; exact h)
      have HP2 := hid (fun W => show Calls Tryd.prog 21 #[.string ⟨s2.toArray⟩, .string ⟨#[115, 101, 99, 111, 110, 100, 32]⟩] W fun e w' => e = .returned (.bool true) ∧ w' = W from by
        have h := Tryd.strings_HasPrefix ⟨s2.toArray⟩ ⟨#[115, 101, 99, 111, 110, 100, 32]⟩ W
        have e : Lib.hasPrefix (⟨s2.toArray⟩ : ByteArray).data.toList (⟨#[115, 101, 99, 111, 110, 100, 32]⟩ : ByteArray).data.toList = true := k6
        rw [e] at h; exact h)
      have hS : (fun W : World => W.cell? ⟨ba, oa + i, none⟩ = some (.string ⟨s1.toArray⟩) ∧ W.cell? ⟨ba, oa + (i + 1), none⟩ = some (.string ⟨s3.toArray⟩) ∧ W.cell? ⟨bb, ob + i, none⟩ = some (.string ⟨s4.toArray⟩) ∧ W.cell? ⟨bb, ob + (i + 1), none⟩ = some (.string ⟨s2.toArray⟩)) wo.drew := ⟨d1, d3, d4, d2⟩
      have hc1 : decide ((i : Int) + 1 < (l1.length : Int)) = true := decide_eq_true (by omega)
      have hi1 : (i : Int) < (l1.length : Int) := by omega
      have hi2 : (i : Int) + 1 < (l1.length : Int) := by omega
      have hi3 : (i : Int) < (l2.length : Int) := by omega
      have hi4 : (i : Int) + 1 < (l2.length : Int) := by omega
      have ht1 : (t == t) = true := by simp
      have ht2 : (t' == t') = true := by simp
      clear a1 a2 a3 a4 e1 e2 e3 e4 k1 k2 k3 k4 k5 k6
      go_wp2_with fail
      have hFa : ∀ f, Fence.wide.fn f := fun _ => trivial
      refine (wpIn_wide (n := 9)).1 ?_
      refine wpIn_onlyN ?_
      refine wpIn_region_HJ (fun W : World => W.cell? ⟨ba, oa + i, none⟩ = some (.string ⟨s1.toArray⟩) ∧ W.cell? ⟨ba, oa + (i + 1), none⟩ = some (.string ⟨s3.toArray⟩) ∧ W.cell? ⟨bb, ob + i, none⟩ = some (.string ⟨s4.toArray⟩) ∧ W.cell? ⟨bb, ob + (i + 1), none⟩ = some (.string ⟨s2.toArray⟩)) 43 (by kernel_rfl) ?_
      simp only [List.size_toArray, List.length_cons, List.length_nil, Nat.reduceAdd]
      refine wpHJ_take (v := ?ve0) 0 hFa rfl (by kernel_rfl) (fun _ _ _ h => h.elim) (Or.inl ⟨by rfl, ?ye0⟩) hS ?re0
      case ye0 => (intro w' hS'; obtain ⟨c1, c2, c3, c4⟩ := hS'; go_simp; try rfl)
      simp only [Act.put, List.getElem_toArray, List.getElem_cons_succ, List.getElem_cons_zero, List.setIfInBounds_toArray, List.set_cons_zero, List.set_cons_succ]
      refine wpHJ_take (v := ?ve1) 1 hFa rfl (by kernel_rfl) (fun _ _ _ h => h.elim) (Or.inl ⟨by rfl, ?ye1⟩) hS ?re1
      case ye1 => (intro w' hS'; obtain ⟨c1, c2, c3, c4⟩ := hS'; go_simp; try rfl)
      simp only [Act.put, List.getElem_toArray, List.getElem_cons_succ, List.getElem_cons_zero, List.setIfInBounds_toArray, List.set_cons_zero, List.set_cons_succ]
      refine wpHJ_take (v := ?ve2) 2 hFa rfl (by kernel_rfl) (fun _ _ _ h => h.elim) (Or.inl ⟨by rfl, ?ye2⟩) hS ?re2
      case ye2 => (intro w' hS'; obtain ⟨c1, c2, c3, c4⟩ := hS'; go_simp; try rfl)
      simp only [Act.put, List.getElem_toArray, List.getElem_cons_succ, List.getElem_cons_zero, List.setIfInBounds_toArray, List.set_cons_zero, List.set_cons_succ]
      refine wpHJ_take (v := ?ve3) 3 hFa rfl (by kernel_rfl) (fun _ _ _ h => h.elim) (Or.inl ⟨by rfl, ?ye3⟩) hS ?re3
      case ye3 => (intro w' hS'; obtain ⟨c1, c2, c3, c4⟩ := hS'; go_simp; try rfl)
      simp only [Act.put, List.getElem_toArray, List.getElem_cons_succ, List.getElem_cons_zero, List.setIfInBounds_toArray, List.set_cons_zero, List.set_cons_succ]
      refine wpHJ_take (v := ?ve5) 5 hFa rfl (by kernel_rfl) (fun _ _ _ h => h.elim) (Or.inl ⟨by rfl, ?ye5⟩) hS ?re5
      case ye5 => (intro w' hS'; obtain ⟨c1, c2, c3, c4⟩ := hS'; go_simp; try rfl)
      simp only [Act.put, List.getElem_toArray, List.getElem_cons_succ, List.getElem_cons_zero, List.setIfInBounds_toArray, List.set_cons_zero, List.set_cons_succ]
      refine wpHJ_take (v := ?ve6) 6 hFa rfl (by kernel_rfl) (fun _ _ _ h => h.elim) (Or.inl ⟨by rfl, ?ye6⟩) hS ?re6
      case ye6 => (intro w' hS'; obtain ⟨c1, c2, c3, c4⟩ := hS'; go_simp; try rfl)
      simp only [Act.put, List.getElem_toArray, List.getElem_cons_succ, List.getElem_cons_zero, List.setIfInBounds_toArray, List.set_cons_zero, List.set_cons_succ]
      refine wpHJ_take (v := ?ve7) 7 hFa rfl (by kernel_rfl) (fun _ _ _ h => h.elim) (Or.inl ⟨by rfl, ?ye7⟩) hS ?re7
      case ye7 => (intro w' hS'; obtain ⟨c1, c2, c3, c4⟩ := hS'; go_simp; try rfl)
      simp only [Act.put, List.getElem_toArray, List.getElem_cons_succ, List.getElem_cons_zero, List.setIfInBounds_toArray, List.set_cons_zero, List.set_cons_succ]
      refine wpHJ_take (v := ?ve8) 8 hFa rfl (by kernel_rfl) (fun _ _ _ h => h.elim) (Or.inl ⟨by rfl, ?ye8⟩) hS ?re8
      case ye8 => (intro w' hS'; obtain ⟨c1, c2, c3, c4⟩ := hS'; go_simp; try rfl)
      simp only [Act.put, List.getElem_toArray, List.getElem_cons_succ, List.getElem_cons_zero, List.setIfInBounds_toArray, List.set_cons_zero, List.set_cons_succ]
      refine wpHJ_take (v := ?ve9) 9 hFa rfl (by kernel_rfl) (fun _ _ _ h => h.elim) (Or.inl ⟨by rfl, ?ye9⟩) hS ?re9
      case ye9 => (intro w' hS'; obtain ⟨c1, c2, c3, c4⟩ := hS'; go_simp; try rfl)
      simp only [Act.put, List.getElem_toArray, List.getElem_cons_succ, List.getElem_cons_zero, List.setIfInBounds_toArray, List.set_cons_zero, List.set_cons_succ]
      refine wpHJ_only 4 (by kernel_rfl) rfl ?_
      intro K hK
      go_simp
      (with_reducible refine (callsIn_wide.2 (HT1.out wo.drew)).mono ?_)
      rintro e wq ⟨rfl, rfl⟩
      refine hK _ _ (.inr (.inr hS)) ?_
      clear hK K
      refine wpHJ_only 10 (by kernel_rfl) rfl ?_
      intro K hK
      go_simp
      (with_reducible refine (callsIn_wide.2 (HT2.out wo.drew)).mono ?_)
      rintro e wq ⟨rfl, rfl⟩
      refine hK _ _ (.inr (.inr hS)) ?_
      clear hK K
      refine wpHJ_take (v := ?ve11) 11 hFa rfl (by kernel_rfl) (fun _ _ _ h => h.elim) (Or.inl ⟨by rfl, ?ye11⟩) hS ?re11
      case ye11 => (intro w' hS'; obtain ⟨c1, c2, c3, c4⟩ := hS'; go_simp; try rfl)
      simp only [Act.put, List.getElem_toArray, List.getElem_cons_succ, List.getElem_cons_zero, List.setIfInBounds_toArray, List.set_cons_zero, List.set_cons_succ]
      refine wpHJ_take (v := ?ve12) 12 hFa rfl (by kernel_rfl) (fun _ _ _ h => h.elim) (Or.inl ⟨by rfl, ?ye12⟩) hS ?re12
      case ye12 => (intro w' hS'; obtain ⟨c1, c2, c3, c4⟩ := hS'; go_simp; try rfl)
      simp only [Act.put, List.getElem_toArray, List.getElem_cons_succ, List.getElem_cons_zero, List.setIfInBounds_toArray, List.set_cons_zero, List.set_cons_succ]
      refine wpHJ_take (v := ?ve13) 13 hFa rfl (by kernel_rfl) (fun _ _ _ h => h.elim) (Or.inl ⟨by simp [Region.wanted, yielded], ?ye13⟩) hS ?re13
      case ye13 => (intro w' hS'; obtain ⟨c1, c2, c3, c4⟩ := hS'; go_simp; try rfl)
      simp only [Act.put, List.getElem_toArray, List.getElem_cons_succ, List.getElem_cons_zero, List.setIfInBounds_toArray, List.set_cons_zero, List.set_cons_succ]
      refine wpHJ_take (v := ?ve14) 14 hFa rfl (by kernel_rfl) (fun _ _ _ h => h.elim) (Or.inl ⟨by simp [Region.wanted, yielded], ?ye14⟩) hS ?re14
      case ye14 => (intro w' hS'; obtain ⟨c1, c2, c3, c4⟩ := hS'; go_simp; try rfl)
      simp only [Act.put, List.getElem_toArray, List.getElem_cons_succ, List.getElem_cons_zero, List.setIfInBounds_toArray, List.set_cons_zero, List.set_cons_succ]
      refine wpHJ_take (v := ?ve15) 15 hFa rfl (by kernel_rfl) (fun _ _ _ h => h.elim) (Or.inl ⟨by simp [Region.wanted, yielded], ?ye15⟩) hS ?re15
      case ye15 => (intro w' hS'; obtain ⟨c1, c2, c3, c4⟩ := hS'; go_simp; try rfl)
      simp only [Act.put, List.getElem_toArray, List.getElem_cons_succ, List.getElem_cons_zero, List.setIfInBounds_toArray, List.set_cons_zero, List.set_cons_succ]
      refine wpHJ_take (v := ?ve16) 16 hFa rfl (by kernel_rfl) (fun _ _ _ h => h.elim) (Or.inl ⟨by simp [Region.wanted, yielded], ?ye16⟩) hS ?re16
      case ye16 => (intro w' hS'; obtain ⟨c1, c2, c3, c4⟩ := hS'; go_simp; try rfl)
      simp only [Act.put, List.getElem_toArray, List.getElem_cons_succ, List.getElem_cons_zero, List.setIfInBounds_toArray, List.set_cons_zero, List.set_cons_succ]
      refine wpHJ_take (v := ?ve17) 17 hFa rfl (by kernel_rfl) (fun _ _ _ h => h.elim) (Or.inl ⟨by simp [Region.wanted, yielded], ?ye17⟩) hS ?re17
      case ye17 => (intro w' hS'; obtain ⟨c1, c2, c3, c4⟩ := hS'; go_simp; try rfl)
      simp only [Act.put, List.getElem_toArray, List.getElem_cons_succ, List.getElem_cons_zero, List.setIfInBounds_toArray, List.set_cons_zero, List.set_cons_succ]
      refine wpHJ_take (v := ?ve19) 19 hFa rfl (by kernel_rfl) (fun _ _ _ h => h.elim) (Or.inl ⟨by simp [Region.wanted, yielded], ?ye19⟩) hS ?re19
      case ye19 => (intro w' hS'; obtain ⟨c1, c2, c3, c4⟩ := hS'; go_simp; try rfl)
      simp only [Act.put, List.getElem_toArray, List.getElem_cons_succ, List.getElem_cons_zero, List.setIfInBounds_toArray, List.set_cons_zero, List.set_cons_succ]
      refine wpHJ_take (v := ?ve20) 20 hFa rfl (by kernel_rfl) (fun _ _ _ h => h.elim) (Or.inl ⟨by simp [Region.wanted, yielded], ?ye20⟩) hS ?re20
      case ye20 => (intro w' hS'; obtain ⟨c1, c2, c3, c4⟩ := hS'; go_simp; try rfl)
      simp only [Act.put, List.getElem_toArray, List.getElem_cons_succ, List.getElem_cons_zero, List.setIfInBounds_toArray, List.set_cons_zero, List.set_cons_succ]
      refine wpHJ_take (v := ?ve21) 21 hFa rfl (by kernel_rfl) (fun _ _ _ h => h.elim) (Or.inl ⟨by simp [Region.wanted, yielded], ?ye21⟩) hS ?re21
      case ye21 => (intro w' hS'; obtain ⟨c1, c2, c3, c4⟩ := hS'; go_simp; try rfl)
      simp only [Act.put, List.getElem_toArray, List.getElem_cons_succ, List.getElem_cons_zero, List.setIfInBounds_toArray, List.set_cons_zero, List.set_cons_succ]
      refine wpHJ_take (v := ?ve22) 22 hFa rfl (by kernel_rfl) (fun _ _ _ h => h.elim) (Or.inl ⟨by simp [Region.wanted, yielded], ?ye22⟩) hS ?re22
      case ye22 => (intro w' hS'; obtain ⟨c1, c2, c3, c4⟩ := hS'; go_simp; try rfl)
      simp only [Act.put, List.getElem_toArray, List.getElem_cons_succ, List.getElem_cons_zero, List.setIfInBounds_toArray, List.set_cons_zero, List.set_cons_succ]
      refine wpHJ_only 18 (by kernel_rfl) rfl ?_
      intro K hK
      rw [if_pos (by simp [Region.wanted, yielded])]
      go_simp
      (with_reducible refine (callsIn_wide.2 (HT3.out wo.drew)).mono ?_)
      rintro e wq ⟨rfl, rfl⟩
      refine hK _ _ (.inr (.inr hS)) ?_
      clear hK K
      refine wpHJ_only 23 (by kernel_rfl) rfl ?_
      intro K hK
      rw [if_pos (by simp [Region.wanted, yielded])]
      go_simp
      (with_reducible refine (callsIn_wide.2 (HT4.out wo.drew)).mono ?_)
      rintro e wq ⟨rfl, rfl⟩
      refine hK _ _ (.inr (.inr hS)) ?_
      clear hK K
      refine wpHJ_take (v := ?ve24) 24 hFa rfl (by kernel_rfl) (fun _ _ _ h => h.elim) (Or.inl ⟨by simp [Region.wanted, yielded], ?ye24⟩) hS ?re24
      case ye24 => (intro w' hS'; obtain ⟨c1, c2, c3, c4⟩ := hS'; go_simp; try rfl)
      simp only [Act.put, List.getElem_toArray, List.getElem_cons_succ, List.getElem_cons_zero, List.setIfInBounds_toArray, List.set_cons_zero, List.set_cons_succ]
      refine wpHJ_take (v := ?ve25) 25 hFa rfl (by kernel_rfl) (fun _ _ _ h => h.elim) (Or.inl ⟨by rfl, ?ye25⟩) hS ?re25
      case ye25 => (intro w' hS'; obtain ⟨c1, c2, c3, c4⟩ := hS'; go_simp; try rfl)
      simp only [Act.put, List.getElem_toArray, List.getElem_cons_succ, List.getElem_cons_zero, List.setIfInBounds_toArray, List.set_cons_zero, List.set_cons_succ]
      refine wpHJ_take (v := ?ve26) 26 hFa rfl (by kernel_rfl) (fun _ _ _ h => h.elim) (Or.inl ⟨by rfl, ?ye26⟩) hS ?re26
      case ye26 => (intro w' hS'; obtain ⟨c1, c2, c3, c4⟩ := hS'; go_simp; try rfl)
      simp only [Act.put, List.getElem_toArray, List.getElem_cons_succ, List.getElem_cons_zero, List.setIfInBounds_toArray, List.set_cons_zero, List.set_cons_succ]
      refine wpHJ_take (v := ?ve27) 27 hFa rfl (by kernel_rfl) (fun _ _ _ h => h.elim) (Or.inl ⟨by simp [Region.wanted, yielded], ?ye27⟩) hS ?re27
      case ye27 => (intro w' hS'; obtain ⟨c1, c2, c3, c4⟩ := hS'; go_simp; try rfl)
      simp only [Act.put, List.getElem_toArray, List.getElem_cons_succ, List.getElem_cons_zero, List.setIfInBounds_toArray, List.set_cons_zero, List.set_cons_succ]
      refine wpHJ_take (v := ?ve28) 28 hFa rfl (by kernel_rfl) (fun _ _ _ h => h.elim) (Or.inl ⟨by simp [Region.wanted, yielded], ?ye28⟩) hS ?re28
      case ye28 => (intro w' hS'; obtain ⟨c1, c2, c3, c4⟩ := hS'; go_simp; try rfl)
      simp only [Act.put, List.getElem_toArray, List.getElem_cons_succ, List.getElem_cons_zero, List.setIfInBounds_toArray, List.set_cons_zero, List.set_cons_succ]
      refine wpHJ_take (v := ?ve29) 29 hFa rfl (by kernel_rfl) (fun _ _ _ h => h.elim) (Or.inl ⟨by simp [Region.wanted, yielded], ?ye29⟩) hS ?re29
      case ye29 => (intro w' hS'; obtain ⟨c1, c2, c3, c4⟩ := hS'; go_simp; try rfl)
      simp only [Act.put, List.getElem_toArray, List.getElem_cons_succ, List.getElem_cons_zero, List.setIfInBounds_toArray, List.set_cons_zero, List.set_cons_succ]
      refine wpHJ_take (v := ?ve30) 30 hFa rfl (by kernel_rfl) (fun _ _ _ h => h.elim) (Or.inl ⟨by simp [Region.wanted, yielded], ?ye30⟩) hS ?re30
      case ye30 => (intro w' hS'; obtain ⟨c1, c2, c3, c4⟩ := hS'; go_simp; try rfl)
      simp only [Act.put, List.getElem_toArray, List.getElem_cons_succ, List.getElem_cons_zero, List.setIfInBounds_toArray, List.set_cons_zero, List.set_cons_succ]
      refine wpHJ_only 31 (by kernel_rfl) rfl ?_
      intro K hK
      rw [if_pos (by simp [Region.wanted, yielded])]
      go_simp
      (with_reducible refine (callsIn_wide.2 (HP1.out wo.drew)).mono ?_)
      rintro e wq ⟨rfl, rfl⟩
      refine hK _ _ (.inr (.inr hS)) ?_
      clear hK K
      refine wpHJ_take (v := ?ve32) 32 hFa rfl (by kernel_rfl) (fun _ _ _ h => h.elim) (Or.inl ⟨by simp [Region.wanted, yielded], ?ye32⟩) hS ?re32
      case ye32 => (intro w' hS'; obtain ⟨c1, c2, c3, c4⟩ := hS'; go_simp; try rfl)
      simp only [Act.put, List.getElem_toArray, List.getElem_cons_succ, List.getElem_cons_zero, List.setIfInBounds_toArray, List.set_cons_zero, List.set_cons_succ]
      refine wpHJ_take (v := ?ve33) 33 hFa rfl (by kernel_rfl) (fun _ _ _ h => h.elim) (Or.inl ⟨by rfl, ?ye33⟩) hS ?re33
      case ye33 => (intro w' hS'; obtain ⟨c1, c2, c3, c4⟩ := hS'; go_simp; try rfl)
      simp only [Act.put, List.getElem_toArray, List.getElem_cons_succ, List.getElem_cons_zero, List.setIfInBounds_toArray, List.set_cons_zero, List.set_cons_succ]
      refine wpHJ_take (v := ?ve34) 34 hFa rfl (by kernel_rfl) (fun _ _ _ h => h.elim) (Or.inl ⟨by rfl, ?ye34⟩) hS ?re34
      case ye34 => (intro w' hS'; obtain ⟨c1, c2, c3, c4⟩ := hS'; go_simp; try rfl)
      simp only [Act.put, List.getElem_toArray, List.getElem_cons_succ, List.getElem_cons_zero, List.setIfInBounds_toArray, List.set_cons_zero, List.set_cons_succ]
      refine wpHJ_take (v := ?ve35) 35 hFa rfl (by kernel_rfl) (fun _ _ _ h => h.elim) (Or.inl ⟨by simp [Region.wanted, yielded], ?ye35⟩) hS ?re35
      case ye35 => (intro w' hS'; obtain ⟨c1, c2, c3, c4⟩ := hS'; go_simp; try rfl)
      simp only [Act.put, List.getElem_toArray, List.getElem_cons_succ, List.getElem_cons_zero, List.setIfInBounds_toArray, List.set_cons_zero, List.set_cons_succ]
      refine wpHJ_take (v := ?ve36) 36 hFa rfl (by kernel_rfl) (fun _ _ _ h => h.elim) (Or.inl ⟨by simp [Region.wanted, yielded], ?ye36⟩) hS ?re36
      case ye36 => (intro w' hS'; obtain ⟨c1, c2, c3, c4⟩ := hS'; go_simp; try rfl)
      simp only [Act.put, List.getElem_toArray, List.getElem_cons_succ, List.getElem_cons_zero, List.setIfInBounds_toArray, List.set_cons_zero, List.set_cons_succ]
      refine wpHJ_take (v := ?ve37) 37 hFa rfl (by kernel_rfl) (fun _ _ _ h => h.elim) (Or.inl ⟨by simp [Region.wanted, yielded], ?ye37⟩) hS ?re37
      case ye37 => (intro w' hS'; obtain ⟨c1, c2, c3, c4⟩ := hS'; go_simp; try rfl)
      simp only [Act.put, List.getElem_toArray, List.getElem_cons_succ, List.getElem_cons_zero, List.setIfInBounds_toArray, List.set_cons_zero, List.set_cons_succ]
      refine wpHJ_take (v := ?ve38) 38 hFa rfl (by kernel_rfl) (fun _ _ _ h => h.elim) (Or.inl ⟨by simp [Region.wanted, yielded], ?ye38⟩) hS ?re38
      case ye38 => (intro w' hS'; obtain ⟨c1, c2, c3, c4⟩ := hS'; go_simp; try rfl)
      simp only [Act.put, List.getElem_toArray, List.getElem_cons_succ, List.getElem_cons_zero, List.setIfInBounds_toArray, List.set_cons_zero, List.set_cons_succ]
      refine wpHJ_take (v := ?ve39) 39 hFa rfl (by kernel_rfl) (fun _ _ _ h => h.elim) (Or.inl ⟨by simp [Region.wanted, yielded], ?ye39⟩) hS ?re39
      case ye39 => (intro w' hS'; obtain ⟨c1, c2, c3, c4⟩ := hS'; go_simp; try rfl)
      simp only [Act.put, List.getElem_toArray, List.getElem_cons_succ, List.getElem_cons_zero, List.setIfInBounds_toArray, List.set_cons_zero, List.set_cons_succ]
      refine wpHJ_only 40 (by kernel_rfl) rfl ?_
      intro K hK
      rw [if_pos (by simp [Region.wanted, yielded])]
      go_simp
      (with_reducible refine (callsIn_wide.2 (HP2.out wo.drew)).mono ?_)
      rintro e wq ⟨rfl, rfl⟩
      refine hK _ _ (.inr (.inr hS)) ?_
      clear hK K
      refine wpHJ_take (v := ?ve41) 41 hFa rfl (by kernel_rfl) (fun _ _ _ h => h.elim) (Or.inl ⟨by simp [Region.wanted, yielded], ?ye41⟩) hS ?re41
      case ye41 => (intro w' hS'; obtain ⟨c1, c2, c3, c4⟩ := hS'; go_simp; try rfl)
      simp only [Act.put, List.getElem_toArray, List.getElem_cons_succ, List.getElem_cons_zero, List.setIfInBounds_toArray, List.set_cons_zero, List.set_cons_succ]
      refine wpHJ_only 42 (by kernel_rfl) rfl ?_
      intro K hK
      go_simp
      refine hK _ _ (.inr (.inr hS)) ?_
      clear hK K
      refine wpHJ_done (by kernel_rfl) ?_ _
      simp only [onlyN, Exit.then]
      clear hFa
      go_wp2
      go_roundw
      case rel => exact ⟨j + 1, i + 2, by rw [HIJ.out]; omega, by omega, by go_num, HBW.out.drew⟩
      case measure => (have := HIJ.out; simp [intOf]; omega)
    · obtain rfl : j = n := by omega
      have hc1 : decide ((i : Int) + 1 < (l1.length : Int)) = false := decide_eq_false (by rw [HN1.out, HIJ.out]; omega)
      have HTW := hid (HT7.out.below HBW.out)
      go_wp2_with (go_at_call 11; with_reducible refine (awake_any _ HTW.out).mono ?_; rintro e w9 ⟨rfl, hb9⟩; have HB9 := hid hb9; clear hb9)
      go_ret
      exact ⟨rfl, HB7.out.trans ((HBW.out.trans (HB9.out.mono HBW.out.size)).mono HB7.out.size)⟩

end Go.Proofs.YtehjfmbnebeioaaDoor
