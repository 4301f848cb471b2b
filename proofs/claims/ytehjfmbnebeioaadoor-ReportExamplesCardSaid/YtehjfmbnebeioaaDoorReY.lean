/-
  The law ReportExamples: ReportLines as a contract.
-/
import Derived.Test.YtehjfmbnebeioaaDoorReW
import Derived.Test.YtehjfmbnebeioaaDoorReX
import Derived.Test.YtehjfmbnebeioaaDoorReV
import Derived.Test.YtehjfmbnebeioaaDoorRqA
import Derived.Deep.DeepCutAuto
namespace Go.Proofs.YtehjfmbnebeioaaDoor
set_option linter.unusedSimpArgs false
set_option linter.unusedVariables false
open Go.RowKit Go.Shelf
attribute [local go_sem] Oper.semAt_some

theorem cut_same {l : List (List Nat)} (h : l.length ≤ 10) (h2 : ∀ x ∈ l, x.length ≤ 20) : cutL l = l := by
  unfold cutL
  rw [List.take_of_length_le h]
  exact (List.map_congr_left fun x hx => List.take_of_length_le (h2 x hx)).trans (List.map_id _)
theorem rowR_set {R : Nat → Prop} {w : World} {b off : Nat} {cs : List Value} (h : RowR R w (some ⟨b, off, none⟩) cs) (j : Nat) (hj : j < cs.length) (u : Value) : RowR R (w.setCell ⟨b, off + j, none⟩ u) (some ⟨b, off, none⟩) (cs.set j u) := by
  obtain ⟨b', off', e, hR, hc⟩ := h.at j hj
  cases e
  refine .inr ⟨b, off, rfl, hR, fun i hi => ?_⟩
  rw [List.length_set] at hi
  by_cases hij : j = i
  · subst hij
    rw [World.cell?_setCell_same _ _ _ (hc j hj)]
    simp
  · rw [World.cell?_setCell_other _ _ _ _ (fun e => hij (by injection e; omega)), hc i hi, List.getElem_set_ne hij]
theorem RowR.imp' {R R' : Nat → Prop} {w : World} {p : Option Addr} {cs : List Value} (h : RowR R w p cs) (hR : ∀ i, R i → R' i) : RowR R' w p cs := by
  rcases h with h | ⟨b, off, e, hb, hc⟩
  · exact .inl h
  · exact .inr ⟨b, off, e, hR b hb, hc⟩
theorem Sft.set {w : World} {k : Nat} (h : Sft w k) (b i : Nat) (v : Value) : Sft (w.setCell ⟨b, i, none⟩ v) k := by
  by_cases e : k = b
  · subst e; obtain ⟨cs, t, h⟩ := h; exact ⟨_, t, heap_set_cell h v⟩
  · exact h.keep (Below.heap_setCell _ _ _ _ e)
theorem strs_set {B b off : Nat} {w : World} {N c : Nat} {l : List By} (h : RowR (fun i => B ≤ i ∧ Sft w i) w (some ⟨b, off, none⟩) (l.map sV)) (h1 : l.length ≤ c) (h2 : c ≤ maxLen) (h3 : l.length ≤ 140737488355328) (hl : l.length = N) (j : Nat) (hj : j < l.length) :
    Strs (fun i => B ≤ i ∧ Sft (w.setCell ⟨b, off + j, none⟩ (.string ⟨#[]⟩)) i) (w.setCell ⟨b, off + j, none⟩ (.string ⟨#[]⟩)) (.slice (some ⟨b, off, none⟩) N c) (l.set j []) := by
  subst hl
  refine ⟨_, c, by rw [List.length_map, List.length_set], by simpa using h1, h2, by simpa using h3, ?_⟩
  rw [List.map_set]
  exact (rowR_set h j (by simpa using hj) _).imp' fun i hi => ⟨hi.1, hi.2.set _ _ _⟩
set_option maxRecDepth 100000 in
set_option maxHeartbeats 8000000 in
/-- The law ReportLines, for lists that are short. -/
theorem replines_any (x : Vd) (pA pB : Option Addr) (cA cB : Nat) (levels chans : List By) (vl vc : Value) (R : Nat → Prop) (w : World) (hv : VdOk x) (hA : NLL R w (.slice pA x.A.length cA) x.A) (hB : NLL R w (.slice pB x.B.length cB) x.B) (hR : ∀ i, R i → i < w.heap.size) (hA1 : x.A.length ≤ 10) (hB1 : x.B.length ≤ 10) (hA2 : ∀ l ∈ x.A, l.length ≤ 20) (hB2 : ∀ l ∈ x.B, l.length ≤ 20)
    (hvl : Strs R w vl levels) (hvc : Strs R w vc chans) (hll : levels.length ≤ 10) (hlc : chans.length ≤ 10) (hls : ∀ s ∈ levels, s.length ≤ 40) (hcs : ∀ s ∈ chans, s.length ≤ 40) (ht : Tabs w) :
    Calls Tryd.prog 12 #[.agg #[.int .u8 (x.kind : Int), .int .u8 (x.reason : Int), .int .i64 x.level, .slice pA x.A.length cA, .slice pB x.B.length cB, .bool x.imp, .bool x.pol, .int .i64 x.line, .int .i64 x.col, .int .i64 x.err], vl, vc] w fun e w' => e = .returned (.bool true) ∧ Below w.heap.size w w' := by
  obtain ⟨W0, hW0⟩ : ∃ W, w.alloc (.cells #[.int .u8 (x.kind : Int), .int .u8 (x.reason : Int), .int .i64 x.level, .slice pA x.A.length cA, .slice pB x.B.length cB, .bool x.imp, .bool x.pol, .int .i64 x.line, .int .i64 x.col, .int .i64 x.err] 35) = W := ⟨_, rfl⟩
  have hb0 : Below w.heap.size w W0 := by rw [← hW0]; exact (Below.refl _ _).alloc (Nat.le_refl _) _
  have hz0 : W0.heap.size = w.heap.size + 1 := by rw [← hW0, World.size_alloc]
  have hc0 : W0.heap[w.heap.size]? = some (.cells #[.int .u8 (x.kind : Int), .int .u8 (x.reason : Int), .int .i64 x.level, .slice pA x.A.length cA, .slice pB x.B.length cB, .bool x.imp, .bool x.pol, .int .i64 x.line, .int .i64 x.col, .int .i64 x.err] 35 (0, 0)) := by rw [← hW0, heap_al, if_pos rfl]
  have up : ∀ i, R i → i < W0.heap.size ∧ W0.heap[i]? = w.heap[i]? := fun i hi => ⟨by have := hR i hi; omega, hb0.block i (hR i hi)⟩
  have hv0 : VB W0 (w.heap.size) x pA cA pB cB := ⟨hc0, hA.keep up, hB.keep up⟩
  have hl0 : Strs (fun i => i < W0.heap.size) W0 vl levels := hvl.keep up
  have hr0 : Strs (fun i => i < W0.heap.size) W0 vc chans := hvc.keep up
  have HFEW := hid (few_any x.kind x.reason x.level x.A x.B x.imp x.pol x.line x.col x.err pA pB cA cB (fun i => i < W0.heap.size) W0 hv0.a hv0.b (fun i hi => hi) (fun l hl => by have := hA2 l hl; omega) (fun l hl => by have := hB2 l hl; omega))
  unfold FewPost at HFEW
  rw [cut_same hA1 hA2, cut_same hB1 hB2] at HFEW
  have HNL := hid (fun W (hW : Below W0.heap.size W0 W) => names39_any levels vl (fun i => i < W.heap.size) W (hl0.keep fun i hi => ⟨Nat.lt_of_lt_of_le hi hW.size, hW.block i hi⟩) (fun i hi => hi) hll hls)
  have HNC := hid (fun W (hW : Below W0.heap.size W0 W) => names39_any chans vc (fun i => i < W.heap.size) W (hr0.keep fun i hi => ⟨Nat.lt_of_lt_of_le hi hW.size, hW.block i hi⟩) (fun i hi => hi) hlc hcs)
  have HV0 := hid hv0; have HB0 := hid hb0; have HZ := hid hz0; have HWW := hid hW0; have HOK := hid hv; have HT := hid ht
  have HLN := hid (And.intro hA1 (And.intro hB1 (And.intro hA2 hB2))); have HLS := hid (And.intro hll (And.intro hlc (And.intro hls hcs)))
  have x0 : W0.cell? ⟨w.heap.size, 0, none⟩ = some (.int .u8 (x.kind : Int)) := (by rw [cell_of_row W0 _ 0 _ _ _ hv0.c]; rfl)
  have f0 : W0.frozen? ⟨w.heap.size, 0, none⟩ = false := frozen_of_row W0 _ 0 _ _ hv0.c
  have x1 : W0.cell? ⟨w.heap.size, 1, none⟩ = some (.int .u8 (x.reason : Int)) := (by rw [cell_of_row W0 _ 1 _ _ _ hv0.c]; rfl)
  have f1 : W0.frozen? ⟨w.heap.size, 1, none⟩ = false := frozen_of_row W0 _ 1 _ _ hv0.c
  have x2 : W0.cell? ⟨w.heap.size, 2, none⟩ = some (.int .i64 x.level) := (by rw [cell_of_row W0 _ 2 _ _ _ hv0.c]; rfl)
  have f2 : W0.frozen? ⟨w.heap.size, 2, none⟩ = false := frozen_of_row W0 _ 2 _ _ hv0.c
  have x3 : W0.cell? ⟨w.heap.size, 3, none⟩ = some (.slice pA x.A.length cA) := (by rw [cell_of_row W0 _ 3 _ _ _ hv0.c]; rfl)
  have f3 : W0.frozen? ⟨w.heap.size, 3, none⟩ = false := frozen_of_row W0 _ 3 _ _ hv0.c
  have x4 : W0.cell? ⟨w.heap.size, 4, none⟩ = some (.slice pB x.B.length cB) := (by rw [cell_of_row W0 _ 4 _ _ _ hv0.c]; rfl)
  have f4 : W0.frozen? ⟨w.heap.size, 4, none⟩ = false := frozen_of_row W0 _ 4 _ _ hv0.c
  have x5 : W0.cell? ⟨w.heap.size, 5, none⟩ = some (.bool x.imp) := (by rw [cell_of_row W0 _ 5 _ _ _ hv0.c]; rfl)
  have f5 : W0.frozen? ⟨w.heap.size, 5, none⟩ = false := frozen_of_row W0 _ 5 _ _ hv0.c
  have x6 : W0.cell? ⟨w.heap.size, 6, none⟩ = some (.bool x.pol) := (by rw [cell_of_row W0 _ 6 _ _ _ hv0.c]; rfl)
  have f6 : W0.frozen? ⟨w.heap.size, 6, none⟩ = false := frozen_of_row W0 _ 6 _ _ hv0.c
  have x7 : W0.cell? ⟨w.heap.size, 7, none⟩ = some (.int .i64 x.line) := (by rw [cell_of_row W0 _ 7 _ _ _ hv0.c]; rfl)
  have f7 : W0.frozen? ⟨w.heap.size, 7, none⟩ = false := frozen_of_row W0 _ 7 _ _ hv0.c
  have x8 : W0.cell? ⟨w.heap.size, 8, none⟩ = some (.int .i64 x.col) := (by rw [cell_of_row W0 _ 8 _ _ _ hv0.c]; rfl)
  have f8 : W0.frozen? ⟨w.heap.size, 8, none⟩ = false := frozen_of_row W0 _ 8 _ _ hv0.c
  have x9 : W0.cell? ⟨w.heap.size, 9, none⟩ = some (.int .i64 x.err) := (by rw [cell_of_row W0 _ 9 _ _ _ hv0.c]; rfl)
  have f9 : W0.frozen? ⟨w.heap.size, 9, none⟩ = false := frozen_of_row W0 _ 9 _ _ hv0.c
  obtain ⟨pl, cl, rfl, gl1, gl2, gl3, hrl⟩ := hvl.op
  obtain ⟨pc, cc, rfl, gc1, gc2, gc3, hrc⟩ := hvc.op
  clear hv hA hB hR hA1 hB1 hA2 hB2 hvl hvc hll hlc hls hcs ht hW0 hb0 hz0 hc0 up hv0 hl0 hr0 hrl hrc
  go_enter Tryd.func12, Tryd.ntmps12
  go_upto_region 1 with fail
  rw [HWW.out]
  go_upto_region 2 with (first
    | (go_at_call 26; (with_reducible refine HFEW.out.mono ?_); rintro e w1 ⟨hb1, p1, c1, p2, c2, rfl, hx1, hx2⟩; have HB1 := hid hb1; have HX1a := hid hx1; have HX2a := hid hx2; clear hb1 hx1 hx2)
    | (go_at_call 27; (with_reducible refine (HNL.out w1 HB1.out).mono ?_); rintro e w2 ⟨⟨u1, rfl, hs1⟩, hb2⟩; have HBa := hid hb2; have HB2 := hid (HB1.out.trans (hb2.mono HB1.out.size)); have HU1 := hid hs1; clear hb2 hs1)
    | (go_at_call 27; (with_reducible refine (HNC.out w2 HB2.out).mono ?_); rintro e w3 ⟨⟨u2, rfl, hs2⟩, hb3⟩; have HBb := hid hb3; have HB3a := hid (HB2.out.trans (hb3.mono HB2.out.size)); have HU2 := hid hs2; clear hb3 hs2; have HV3 := hid (HV0.out.step HB3a.out); have HB3 := hid (HB0.out.trans (HB3a.out.mono HB0.out.size)); have HX1 := hid (HX1a.out.keep fun i hi => (show (W0.heap.size ≤ i ∧ i < w3.heap.size) ∧ w3.heap[i]? = w1.heap[i]? from ⟨⟨hi.1, Nat.lt_of_lt_of_le hi.2 (Nat.le_trans HBa.out.size HBb.out.size)⟩, (HBb.out.block i (Nat.lt_of_lt_of_le hi.2 HBa.out.size)).trans (HBa.out.block i hi.2)⟩)); have HX2 := hid (HX2a.out.keep fun i hi => (show (W0.heap.size ≤ i ∧ i < w3.heap.size) ∧ w3.heap[i]? = w1.heap[i]? from ⟨⟨hi.1, Nat.lt_of_lt_of_le hi.2 (Nat.le_trans HBa.out.size HBb.out.size)⟩, (HBb.out.block i (Nat.lt_of_lt_of_le hi.2 HBa.out.size)).trans (HBa.out.block i hi.2)⟩)); clear x0 f0 x1 f1 x2 f2 x3 f3 x4 f4 x5 f5 x6 f6 x7 f7 x8 f8 x9 f9; have x0 : w3.cell? ⟨w.heap.size, 0, none⟩ = some (.int .u8 (x.kind : Int)) := (by rw [cell_of_row w3 _ 0 _ _ _ HV3.out.c]; rfl); have f0 : w3.frozen? ⟨w.heap.size, 0, none⟩ = false := frozen_of_row w3 _ 0 _ _ HV3.out.c; have x1 : w3.cell? ⟨w.heap.size, 1, none⟩ = some (.int .u8 (x.reason : Int)) := (by rw [cell_of_row w3 _ 1 _ _ _ HV3.out.c]; rfl); have f1 : w3.frozen? ⟨w.heap.size, 1, none⟩ = false := frozen_of_row w3 _ 1 _ _ HV3.out.c; have x2 : w3.cell? ⟨w.heap.size, 2, none⟩ = some (.int .i64 x.level) := (by rw [cell_of_row w3 _ 2 _ _ _ HV3.out.c]; rfl); have f2 : w3.frozen? ⟨w.heap.size, 2, none⟩ = false := frozen_of_row w3 _ 2 _ _ HV3.out.c; have x3 : w3.cell? ⟨w.heap.size, 3, none⟩ = some (.slice pA x.A.length cA) := (by rw [cell_of_row w3 _ 3 _ _ _ HV3.out.c]; rfl); have f3 : w3.frozen? ⟨w.heap.size, 3, none⟩ = false := frozen_of_row w3 _ 3 _ _ HV3.out.c; have x4 : w3.cell? ⟨w.heap.size, 4, none⟩ = some (.slice pB x.B.length cB) := (by rw [cell_of_row w3 _ 4 _ _ _ HV3.out.c]; rfl); have f4 : w3.frozen? ⟨w.heap.size, 4, none⟩ = false := frozen_of_row w3 _ 4 _ _ HV3.out.c; have x5 : w3.cell? ⟨w.heap.size, 5, none⟩ = some (.bool x.imp) := (by rw [cell_of_row w3 _ 5 _ _ _ HV3.out.c]; rfl); have f5 : w3.frozen? ⟨w.heap.size, 5, none⟩ = false := frozen_of_row w3 _ 5 _ _ HV3.out.c; have x6 : w3.cell? ⟨w.heap.size, 6, none⟩ = some (.bool x.pol) := (by rw [cell_of_row w3 _ 6 _ _ _ HV3.out.c]; rfl); have f6 : w3.frozen? ⟨w.heap.size, 6, none⟩ = false := frozen_of_row w3 _ 6 _ _ HV3.out.c; have x7 : w3.cell? ⟨w.heap.size, 7, none⟩ = some (.int .i64 x.line) := (by rw [cell_of_row w3 _ 7 _ _ _ HV3.out.c]; rfl); have f7 : w3.frozen? ⟨w.heap.size, 7, none⟩ = false := frozen_of_row w3 _ 7 _ _ HV3.out.c; have x8 : w3.cell? ⟨w.heap.size, 8, none⟩ = some (.int .i64 x.col) := (by rw [cell_of_row w3 _ 8 _ _ _ HV3.out.c]; rfl); have f8 : w3.frozen? ⟨w.heap.size, 8, none⟩ = false := frozen_of_row w3 _ 8 _ _ HV3.out.c; have x9 : w3.cell? ⟨w.heap.size, 9, none⟩ = some (.int .i64 x.err) := (by rw [cell_of_row w3 _ 9 _ _ _ HV3.out.c]; rfl); have f9 : w3.frozen? ⟨w.heap.size, 9, none⟩ = false := frozen_of_row w3 _ 9 _ _ HV3.out.c))
  obtain ⟨w4, hw4⟩ : ∃ W, ((((((((((w3).setCell ⟨w.heap.size, 0, none⟩ (.int .u8 (x.kind : Int))).setCell ⟨w.heap.size, 1, none⟩ (.int .u8 (x.reason : Int))).setCell ⟨w.heap.size, 2, none⟩ (.int .i64 x.level)).setCell ⟨w.heap.size, 3, none⟩ (.slice p1 x.A.length c1)).setCell ⟨w.heap.size, 4, none⟩ (.slice p2 x.B.length c2)).setCell ⟨w.heap.size, 5, none⟩ (.bool x.imp)).setCell ⟨w.heap.size, 6, none⟩ (.bool x.pol)).setCell ⟨w.heap.size, 7, none⟩ (.int .i64 x.line)).setCell ⟨w.heap.size, 8, none⟩ (.int .i64 x.col)).setCell ⟨w.heap.size, 9, none⟩ (.int .i64 x.err) = W := ⟨_, rfl⟩
  obtain ⟨hx4, hk4, hs4, hb4⟩ := HV3.out.of_set (x := x) (p1 := p1) (c1 := c1) (p2 := p2) (c2 := c2) HX1.out HX2.out (fun i hi => ⟨by have := HZ.out; omega, hi.2⟩) (fun i hi => ⟨by have := HZ.out; omega, hi.2⟩) hw4
  rw [hw4]
  clear hw4 x0 f0 x1 f1 x2 f2 x3 f3 x4 f4 x5 f5 x6 f6 x7 f7 x8 f8 x9 f9
  have HV4 := hid hx4
  have HB4 := hid (hb4 HB3.out (Nat.le_refl _))
  have HSL4 := hid (show Strs (fun i => W0.heap.size ≤ i ∧ i < w4.heap.size) w4 u1 levels from HU1.out.keep fun i hi => ⟨⟨Nat.le_trans HB1.out.size hi.1, by rw [hs4]; exact Nat.lt_of_lt_of_le hi.2 HBb.out.size⟩, (hk4 i (by have := HZ.out; have := HB1.out.size; omega)).trans (HBb.out.block i hi.2)⟩)
  have HSC4 := hid (show Strs (fun i => W0.heap.size ≤ i ∧ i < w4.heap.size) w4 u2 chans from HU2.out.keep fun i hi => ⟨⟨Nat.le_trans HB2.out.size hi.1, by rw [hs4]; exact hi.2⟩, hk4 i (by have := HZ.out; have := HB2.out.size; omega)⟩)
  have HXA4 := hid (show NLL (fun i => W0.heap.size ≤ i ∧ i < w4.heap.size) w4 (.slice p1 x.A.length c1) x.A from HX1.out.keep fun i hi => ⟨⟨hi.1, by rw [hs4]; exact hi.2⟩, hk4 i (by have := HZ.out; omega)⟩)
  have HXB4 := hid (show NLL (fun i => W0.heap.size ≤ i ∧ i < w4.heap.size) w4 (.slice p2 x.B.length c2) x.B from HX2.out.keep fun i hi => ⟨⟨hi.1, by rw [hs4]; exact hi.2⟩, hk4 i (by have := HZ.out; omega)⟩)
  have HZ4 := hid (show W0.heap.size ≤ w4.heap.size from by rw [hs4]; exact HB3a.out.size)
  have HT4 := hid (show Tabs w4 from (HT.out.below HB4.out))
  clear hx4 hk4 hs4 hb4 HX1 HX2 HX1a HX2a HU1 HU2 HV3
  have x0 : w4.cell? ⟨w.heap.size, 0, none⟩ = some (.int .u8 (x.kind : Int)) := (by rw [cell_of_row w4 _ 0 _ _ _ HV4.out.c]; rfl)
  have x1 : w4.cell? ⟨w.heap.size, 1, none⟩ = some (.int .u8 (x.reason : Int)) := (by rw [cell_of_row w4 _ 1 _ _ _ HV4.out.c]; rfl)
  have x2 : w4.cell? ⟨w.heap.size, 2, none⟩ = some (.int .i64 x.level) := (by rw [cell_of_row w4 _ 2 _ _ _ HV4.out.c]; rfl)
  have x3 : w4.cell? ⟨w.heap.size, 3, none⟩ = some (.slice p1 x.A.length c1) := (by rw [cell_of_row w4 _ 3 _ _ _ HV4.out.c]; rfl)
  have x4 : w4.cell? ⟨w.heap.size, 4, none⟩ = some (.slice p2 x.B.length c2) := (by rw [cell_of_row w4 _ 4 _ _ _ HV4.out.c]; rfl)
  have x5 : w4.cell? ⟨w.heap.size, 5, none⟩ = some (.bool x.imp) := (by rw [cell_of_row w4 _ 5 _ _ _ HV4.out.c]; rfl)
  have x6 : w4.cell? ⟨w.heap.size, 6, none⟩ = some (.bool x.pol) := (by rw [cell_of_row w4 _ 6 _ _ _ HV4.out.c]; rfl)
  have x7 : w4.cell? ⟨w.heap.size, 7, none⟩ = some (.int .i64 x.line) := (by rw [cell_of_row w4 _ 7 _ _ _ HV4.out.c]; rfl)
  have x8 : w4.cell? ⟨w.heap.size, 8, none⟩ = some (.int .i64 x.col) := (by rw [cell_of_row w4 _ 8 _ _ _ HV4.out.c]; rfl)
  have x9 : w4.cell? ⟨w.heap.size, 9, none⟩ = some (.int .i64 x.err) := (by rw [cell_of_row w4 _ 9 _ _ _ HV4.out.c]; rfl)
  go_upto_region 3 with fail
  obtain ⟨w5, hw5⟩ : ∃ W, w4.alloc (.cells #[.int .u8 (x.kind : Int), .int .u8 (x.reason : Int), .int .i64 x.level, .slice p1 x.A.length c1, .slice p2 x.B.length c2, .bool x.imp, .bool x.pol, .int .i64 x.line, .int .i64 x.col, .int .i64 x.err] 35) = W := ⟨_, rfl⟩
  have hb5 : Below w4.heap.size w4 w5 := by rw [← hw5]; exact (Below.refl _ _).alloc (Nat.le_refl _) _
  have HG5 := hid (show w5.heap[w4.heap.size]? = some (.cells #[.int .u8 (x.kind : Int), .int .u8 (x.reason : Int), .int .i64 x.level, .slice p1 x.A.length c1, .slice p2 x.B.length c2, .bool x.imp, .bool x.pol, .int .i64 x.line, .int .i64 x.col, .int .i64 x.err] 35 (0, 0)) from by rw [← hw5, heap_al, if_pos rfl])
  have HV5 := hid (HV4.out.step hb5)
  have HBw5 := hid hb5
  have HZ5 := hid (show w5.heap.size = w4.heap.size + 1 from by rw [← hw5, World.size_alloc])
  rw [hw5]
  clear hw5 hb5 x0 x1 x2 x3 x4 x5 x6 x7 x8 x9
  have HCW := hid (copywit_any x.level x.A x.B x.imp p1 p2 c1 c2 (fun i => i < w5.heap.size) w5 HV5.out.a HV5.out.b (fun i hi => hi) (by have := HLN.out.1; omega) (by have := HLN.out.2.1; omega) (fun l hl => by have := HLN.out.2.2.1 l hl; omega) (fun l hl => by have := HLN.out.2.2.2 l hl; omega))
  have x0 : w5.cell? ⟨w.heap.size, 0, none⟩ = some (.int .u8 (x.kind : Int)) := (by rw [cell_of_row w5 _ 0 _ _ _ HV5.out.c]; rfl)
  have x1 : w5.cell? ⟨w.heap.size, 1, none⟩ = some (.int .u8 (x.reason : Int)) := (by rw [cell_of_row w5 _ 1 _ _ _ HV5.out.c]; rfl)
  have x2 : w5.cell? ⟨w.heap.size, 2, none⟩ = some (.int .i64 x.level) := (by rw [cell_of_row w5 _ 2 _ _ _ HV5.out.c]; rfl)
  have x3 : w5.cell? ⟨w.heap.size, 3, none⟩ = some (.slice p1 x.A.length c1) := (by rw [cell_of_row w5 _ 3 _ _ _ HV5.out.c]; rfl)
  have x4 : w5.cell? ⟨w.heap.size, 4, none⟩ = some (.slice p2 x.B.length c2) := (by rw [cell_of_row w5 _ 4 _ _ _ HV5.out.c]; rfl)
  have x5 : w5.cell? ⟨w.heap.size, 5, none⟩ = some (.bool x.imp) := (by rw [cell_of_row w5 _ 5 _ _ _ HV5.out.c]; rfl)
  have x6 : w5.cell? ⟨w.heap.size, 6, none⟩ = some (.bool x.pol) := (by rw [cell_of_row w5 _ 6 _ _ _ HV5.out.c]; rfl)
  have x7 : w5.cell? ⟨w.heap.size, 7, none⟩ = some (.int .i64 x.line) := (by rw [cell_of_row w5 _ 7 _ _ _ HV5.out.c]; rfl)
  have x8 : w5.cell? ⟨w.heap.size, 8, none⟩ = some (.int .i64 x.col) := (by rw [cell_of_row w5 _ 8 _ _ _ HV5.out.c]; rfl)
  have x9 : w5.cell? ⟨w.heap.size, 9, none⟩ = some (.int .i64 x.err) := (by rw [cell_of_row w5 _ 9 _ _ _ HV5.out.c]; rfl)
  go_upto_region 4 with (go_at_call 28; (with_reducible refine HCW.out.mono ?_); rintro e w6 ⟨hb6, p3, c3, p4, c4, rfl, hx3, hx4⟩; have HBw6 := hid hb6; have HX3 := hid hx3; have HX4 := hid hx4; clear hb6 hx3 hx4 x0 x1 x2 x3 x4 x5 x6 x7 x8 x9; have hg6 := (HBw6.out.block w4.heap.size (by have := HZ5.out; omega)).trans HG5.out; have HG6 := hid hg6; have y2 : w6.cell? ⟨w4.heap.size, 2, none⟩ = some (.int .i64 x.level) := (by rw [cell_of_row w6 _ 2 _ _ _ hg6]; rfl); have f2 : w6.frozen? ⟨w4.heap.size, 2, none⟩ = false := frozen_of_row w6 _ 2 _ _ hg6; have y3 : w6.cell? ⟨w4.heap.size, 3, none⟩ = some (.slice p1 x.A.length c1) := (by rw [cell_of_row w6 _ 3 _ _ _ hg6]; rfl); have f3 : w6.frozen? ⟨w4.heap.size, 3, none⟩ = false := frozen_of_row w6 _ 3 _ _ hg6; have y4 : w6.cell? ⟨w4.heap.size, 4, none⟩ = some (.slice p2 x.B.length c2) := (by rw [cell_of_row w6 _ 4 _ _ _ hg6]; rfl); have f4 : w6.frozen? ⟨w4.heap.size, 4, none⟩ = false := frozen_of_row w6 _ 4 _ _ hg6; have y5 : w6.cell? ⟨w4.heap.size, 5, none⟩ = some (.bool x.imp) := (by rw [cell_of_row w6 _ 5 _ _ _ hg6]; rfl); have f5 : w6.frozen? ⟨w4.heap.size, 5, none⟩ = false := frozen_of_row w6 _ 5 _ _ hg6; clear hg6)
  obtain ⟨w7, hw7⟩ : ∃ W, (((w6.setCell ⟨w4.heap.size, 2, none⟩ (.int .i64 x.level)).setCell ⟨w4.heap.size, 3, none⟩ (.slice p3 x.A.length c3)).setCell ⟨w4.heap.size, 4, none⟩ (.slice p4 x.B.length c4)).setCell ⟨w4.heap.size, 5, none⟩ (.bool x.imp) = W := ⟨_, rfl⟩
  have hg7 : w7.heap[w4.heap.size]? = some (.cells #[.int .u8 (x.kind : Int), .int .u8 (x.reason : Int), .int .i64 x.level, .slice p3 x.A.length c3, .slice p4 x.B.length c4, .bool x.imp, .bool x.pol, .int .i64 x.line, .int .i64 x.col, .int .i64 x.err] 35 (0, 0)) := by
    rw [← hw7]
    have := heap_set_cell (i := 5) (heap_set_cell (i := 4) (heap_set_cell (i := 3) (heap_set_cell (i := 2) HG6.out (.int .i64 x.level)) (.slice p3 x.A.length c3)) (.slice p4 x.B.length c4)) (.bool x.imp)
    simpa using this
  have hk7 : ∀ j, j ≠ w4.heap.size → w7.heap[j]? = w6.heap[j]? := fun j hj => by rw [← hw7]; exact (Below.heap_setCell _ _ _ _ hj).trans ((Below.heap_setCell _ _ _ _ hj).trans ((Below.heap_setCell _ _ _ _ hj).trans (Below.heap_setCell _ _ _ _ hj)))
  have hs7 : w7.heap.size = w6.heap.size := by rw [← hw7]; simp only [World.size_setCell]
  have hb7 : Below w.heap.size w w7 := by
    have h4 : w.heap.size ≤ w4.heap.size := by have := HZ.out; have := HZ4.out; omega
    rw [← hw7]
    exact ((((HB4.out.trans ((HBw5.out.trans (HBw6.out.mono HBw5.out.size)).mono h4)).setCell (p := ⟨w4.heap.size, 2, none⟩) h4 _).setCell (p := ⟨w4.heap.size, 3, none⟩) h4 _).setCell (p := ⟨w4.heap.size, 4, none⟩) h4 _).setCell (p := ⟨w4.heap.size, 5, none⟩) h4 _
  have hk74 : ∀ j, j < w4.heap.size → w7.heap[j]? = w4.heap[j]? := fun j hj => (hk7 j (by omega)).trans ((HBw6.out.block j (by have := HZ5.out; omega)).trans (HBw5.out.block j hj))
  have hsz : w4.heap.size ≤ w7.heap.size := by have := HBw6.out.size; have := HZ5.out; omega
  have HVo := hid (show VB w7 w4.heap.size x p3 c3 p4 c4 from ⟨hg7, HX3.out.keep fun i hi => ⟨by rw [hs7]; exact hi.2, hk7 i (by have := HZ5.out; omega)⟩, HX4.out.keep fun i hi => ⟨by rw [hs7]; exact hi.2, hk7 i (by have := HZ5.out; omega)⟩⟩)
  have HVv := hid (show VB w7 w.heap.size x p1 c1 p2 c2 from ⟨(hk74 _ (by have := HZ.out; have := HZ4.out; omega)).trans HV4.out.c, HXA4.out.keep fun i hi => ⟨Nat.lt_of_lt_of_le hi.2 hsz, hk74 i hi.2⟩, HXB4.out.keep fun i hi => ⟨Nat.lt_of_lt_of_le hi.2 hsz, hk74 i hi.2⟩⟩)
  have HSL7 := hid (show Strs (fun i => i < w7.heap.size) w7 u1 levels from HSL4.out.keep fun i hi => ⟨Nat.lt_of_lt_of_le hi.2 hsz, hk74 i hi.2⟩)
  have HSC7 := hid (show Strs (fun i => i < w7.heap.size) w7 u2 chans from HSC4.out.keep fun i hi => ⟨Nat.lt_of_lt_of_le hi.2 hsz, hk74 i hi.2⟩)
  have HB7 := hid hb7
  rw [hw7]
  clear hw7 hg7 hk7 hs7 hb7 hk74 hsz HV4 HXA4 HXB4 HSL4 HSC4 HV5 HX3 HX4 HG6 y2 f2 y3 f3 y4 f4 y5 f5
  obtain ⟨⟨LL, LE⟩, hLL⟩ : ∃ r, vlinesR x levels chans = r := ⟨_, rfl⟩
  have HRV := hid (rlines_any x.kind x.reason x.level x.A x.B x.imp x.pol x.line x.col x.err p1 p2 c1 c2 levels chans u1 u2 (fun i => i < w7.heap.size) w7 HOK.out HSL7.out HSC7.out HVv.out.a HVv.out.b (fun i hi => hi) (fun l hl => by have := HLN.out.2.2.1 l hl; omega) (fun l hl => by have := HLN.out.2.2.2 l hl; omega) (fun s hs => by have := HLS.out.2.2.1 s hs; omega) (fun s hs => by have := HLS.out.2.2.2 s hs; omega) (by have := HLS.out.2.1; omega))
  rw [show vlinesR ⟨x.kind, x.reason, x.level, x.A, x.B, x.imp, x.pol, x.line, x.col, x.err⟩ levels chans = (LL, LE) from hLL] at HRV
  have HLL := hid hLL
  clear hLL
  unfold RP at HRV
  dsimp only at HRV
  have x0 : w7.cell? ⟨w.heap.size, 0, none⟩ = some (.int .u8 (x.kind : Int)) := (by rw [cell_of_row w7 _ 0 _ _ _ HVv.out.c]; rfl)
  have x1 : w7.cell? ⟨w.heap.size, 1, none⟩ = some (.int .u8 (x.reason : Int)) := (by rw [cell_of_row w7 _ 1 _ _ _ HVv.out.c]; rfl)
  have x2 : w7.cell? ⟨w.heap.size, 2, none⟩ = some (.int .i64 x.level) := (by rw [cell_of_row w7 _ 2 _ _ _ HVv.out.c]; rfl)
  have x3 : w7.cell? ⟨w.heap.size, 3, none⟩ = some (.slice p1 x.A.length c1) := (by rw [cell_of_row w7 _ 3 _ _ _ HVv.out.c]; rfl)
  have x4 : w7.cell? ⟨w.heap.size, 4, none⟩ = some (.slice p2 x.B.length c2) := (by rw [cell_of_row w7 _ 4 _ _ _ HVv.out.c]; rfl)
  have x5 : w7.cell? ⟨w.heap.size, 5, none⟩ = some (.bool x.imp) := (by rw [cell_of_row w7 _ 5 _ _ _ HVv.out.c]; rfl)
  have x6 : w7.cell? ⟨w.heap.size, 6, none⟩ = some (.bool x.pol) := (by rw [cell_of_row w7 _ 6 _ _ _ HVv.out.c]; rfl)
  have x7 : w7.cell? ⟨w.heap.size, 7, none⟩ = some (.int .i64 x.line) := (by rw [cell_of_row w7 _ 7 _ _ _ HVv.out.c]; rfl)
  have x8 : w7.cell? ⟨w.heap.size, 8, none⟩ = some (.int .i64 x.col) := (by rw [cell_of_row w7 _ 8 _ _ _ HVv.out.c]; rfl)
  have x9 : w7.cell? ⟨w.heap.size, 9, none⟩ = some (.int .i64 x.err) := (by rw [cell_of_row w7 _ 9 _ _ _ HVv.out.c]; rfl)
  go_upto_region 5 with (go_at_call 29; (with_reducible refine HRV.out.mono ?_); rintro e w8 ⟨hb8, pw, cw, rfl, hsw⟩; have HB8 := hid hb8; have HW8 := hid hsw; clear hb8 hsw x0 x1 x2 x3 x4 x5 x6 x7 x8 x9)
  have HVo8 := hid (HVo.out.step HB8.out); have HVv8 := hid (HVv.out.step HB8.out)
  have HSL8 := hid (strs_in HSL7.out (fun i hi => hi) HB8.out); have HSC8 := hid (strs_in HSC7.out (fun i hi => hi) HB8.out)
  have HBT8 := hid (HB7.out.trans (HB8.out.mono HB7.out.size))
  clear HVo HVv HSL7 HSC7
  go_wp2_with fail
  go_loopw [10, 11, 12, 13] (fun av u11 u12 u13 wl => ∃ k : Nat, k ≤ 2 ∧ av = .int .i64 (k : Int) ∧ Below w8.heap.size w8 wl) (fun av _ _ _ _ => 2 - (intOf av).toNat)
  case atStart => exact ⟨0, by omega, rfl, Below.refl _ _⟩
  case round =>
    obtain ⟨k, hk, rfl, hbl⟩ := hrel
    obtain ⟨wl, rfl⟩ : ∃ w : World, w = wr := ⟨_, rfl⟩
    have HBL := hid hbl
    clear hbl
    have HBTl := hid (HBT8.out.trans (HBL.out.mono HBT8.out.size))
    by_cases hlk : k < 2
    · have t1 : decide ((k : Int) < 2) = true := decide_eq_true (by omega)
      go_upto_region 8 with fail
      have HVoL := hid (HVo8.out.step HBL.out); have HVvL := hid (HVv8.out.step HBL.out)
      have HTL := hid (HT.out.below HBTl.out)
      have HLX := hid (fun (W : World) (ua ub : Value) (h : VB W (w4.heap.size) x p3 c3 p4 c4) (hs1 : Strs (fun i => i < W.heap.size) W ua levels) (hs2 : Strs (fun i => i < W.heap.size) W ub chans) (ht : Tabs W) => show Calls Tryd.prog 15 #[.agg #[.int .u8 (x.kind : Int), .int .u8 (x.reason : Int), .int .i64 x.level, .slice p3 x.A.length c3, .slice p4 x.B.length c4, .bool x.imp, .bool x.pol, .int .i64 x.line, .int .i64 x.col, .int .i64 x.err], ua, ub] W fun e w' => Below W.heap.size W w' ∧ ∃ p c, e = .returned (.tuple #[.slice p LL.length c, .int .i64 LE]) ∧ Strs (fun k => W.heap.size ≤ k ∧ Sft w' k) w' (.slice p LL.length c) LL from by
        have h := lines_any x p3 p4 c3 c4 levels chans ua ub (fun i => i < W.heap.size) W HOK.out hs1 hs2 h.a h.b (fun i hi => hi) (fun s hs => by have := HLS.out.2.2.1 s hs; omega) (fun s hs => by have := HLS.out.2.2.2 s hs; omega) (by have := HLS.out.2.1; omega) ht
        unfold VPost at h
        rw [HLL.out] at h
        exact h)
      have hS : (Sx (w4.heap.size) x p3 c3 p4 c4) wl.drew := (HVoL.out.step (below_self _)).sx
      have hFa : ∀ f, Fence.wide.fn f := fun _ => trivial
      refine (wpIn_wide (n := 9)).1 ?_
      refine wpIn_onlyN ?_
      refine wpIn_region_HJ (Sx (w4.heap.size) x p3 c3 p4 c4) 10 (by kernel_rfl) ?_
      simp only [List.size_toArray, List.length_cons, List.length_nil, Nat.reduceAdd]
      refine wpHJ_take (v := ?vb0) 0 hFa rfl (by kernel_rfl) (fun _ _ _ h => h.elim) (Or.inl ⟨by rfl, ?yb0⟩) hS ?rb0
      case yb0 => (intro w' hS'; obtain ⟨s0, s1, s2, s3, s4, s5, s6, s7, s8, s9⟩ := hS'; go_simp; try rfl)
      simp only [Act.put, List.getElem_toArray, List.getElem_cons_succ, List.getElem_cons_zero, List.setIfInBounds_toArray, List.set_cons_zero, List.set_cons_succ]
      refine wpHJ_pure (v := ?vb1) 1 hFa rfl (by kernel_rfl) (fun _ _ _ h => h.elim) (Or.inl ⟨by rfl, ?yb1⟩) (.inr hS) ?rb1
      case yb1 => (intro w' _; go_simp; try rfl)
      simp only [Act.put, List.getElem_toArray, List.getElem_cons_succ, List.getElem_cons_zero, List.setIfInBounds_toArray, List.set_cons_zero, List.set_cons_succ]
      refine wpHJ_pure (v := ?vb3) 3 hFa rfl (by kernel_rfl) (fun _ _ _ h => h.elim) (Or.inl ⟨by rfl, ?yb3⟩) (.inr hS) ?rb3
      case yb3 => (intro w' _; go_simp; try rfl)
      simp only [Act.put, List.getElem_toArray, List.getElem_cons_succ, List.getElem_cons_zero, List.setIfInBounds_toArray, List.set_cons_zero, List.set_cons_succ]
      clear hS
      have hbd := below_self wl
      have hvd := HVoL.out.step hbd
      have htd := HTL.out.below hbd
      generalize wl.drew = wd at *
      have HVoLd := hid hvd; have HBd := hid hbd; have HTd := hid htd
      have HBd8 := hid (HBL.out.trans (hbd.mono HBL.out.size))
      clear hvd hbd htd
      refine wpHJ_only 2 (by kernel_rfl) rfl ?_
      intro K hK
      go_simp
      (with_reducible refine (callsIn_wide.2 (copystrings_any levels u1 (fun i => i < wd.heap.size) wd (strs_in HSL8.out (fun i hi => hi) HBd8.out) (fun i hi => hi) (by have := HLS.out.1; omega))).mono ?_)
      rintro e wda ⟨⟨ua, rfl, hsm⟩, hba⟩
      have HBA := hid hba; have HSM := hid hsm; have HBA8 := hid (HBd8.out.trans (hba.mono HBd8.out.size))
      clear hba hsm
      refine hK _ _ (.inr (.inr (HVoLd.out.step HBA.out).sx)) ?_
      clear hK K
      refine wpHJ_only 4 (by kernel_rfl) rfl ?_
      intro K hK
      go_simp
      (with_reducible refine (callsIn_wide.2 (copystrings_any chans u2 (fun i => i < wda.heap.size) wda (strs_in HSC8.out (fun i hi => hi) HBA8.out) (fun i hi => hi) (by have := HLS.out.2.1; omega))).mono ?_)
      rintro e wdb ⟨⟨ub, rfl, hsn⟩, hbb⟩
      have HBB := hid hbb; have HSN := hid hsn
      clear hbb hsn
      refine hK _ _ (.inr (.inr ((HVoLd.out.step HBA.out).step HBB.out).sx)) ?_
      clear hK K
      refine wpHJ_only 5 (by kernel_rfl) rfl ?_
      intro K hK
      go_simp
      (with_reducible refine (callsIn_wide.2 (HLX.out wdb ua ub ((HVoLd.out.step HBA.out).step HBB.out) (strs_in HSM.out (fun i hi => hi.2) HBB.out) (HSN.out.keep fun i hi => ⟨hi.2, rfl⟩) ((HTd.out.below HBA.out).below HBB.out))).mono ?_)
      rintro e wo ⟨hbc, pg, cg, rfl, hsl⟩
      have hbo := HBd.out.trans ((HBA.out.trans (HBB.out.mono HBA.out.size)).trans (hbc.mono (Nat.le_trans HBA.out.size HBB.out.size)) |>.mono HBd.out.size)
      have HBO := hid hbo; have HSG := hid (hsl.keep fun i hi => (show (wl.heap.size ≤ i ∧ Sft wo i) ∧ wo.heap[i]? = wo.heap[i]? from ⟨⟨Nat.le_trans (Nat.le_trans HBd.out.size (Nat.le_trans HBA.out.size HBB.out.size)) hi.1, hi.2⟩, rfl⟩))
      clear hbc hsl hbo
      refine hK _ _ (.inr (.inr (HVoL.out.step HBO.out).sx)) ?_
      clear hK K
      refine wpHJ_pure (v := ?vb6) 6 hFa rfl (by kernel_rfl) (fun _ _ _ h => h.elim) (Or.inl ⟨by rfl, ?yb6⟩) (.inr (HVoL.out.step HBO.out).sx) ?rb6
      case yb6 => (intro w' _; go_simp; try rfl)
      simp only [Act.put, List.getElem_toArray, List.getElem_cons_succ, List.getElem_cons_zero, List.setIfInBounds_toArray, List.set_cons_zero, List.set_cons_succ]
      refine wpHJ_pure (v := ?vb7) 7 hFa rfl (by kernel_rfl) (fun _ _ _ h => h.elim) (Or.inl ⟨by rfl, ?yb7⟩) (.inr (HVoL.out.step HBO.out).sx) ?rb7
      case yb7 => (intro w' _; go_simp; try rfl)
      simp only [Act.put, List.getElem_toArray, List.getElem_cons_succ, List.getElem_cons_zero, List.setIfInBounds_toArray, List.set_cons_zero, List.set_cons_succ]
      refine wpHJ_pure (v := ?vb8) 8 hFa rfl (by kernel_rfl) (fun _ _ _ h => h.elim) (Or.inl ⟨by rfl, ?yb8⟩) (.inr (HVoL.out.step HBO.out).sx) ?rb8
      case yb8 => (intro w' _; go_simp; try rfl)
      simp only [Act.put, List.getElem_toArray, List.getElem_cons_succ, List.getElem_cons_zero, List.setIfInBounds_toArray, List.set_cons_zero, List.set_cons_succ]
      refine wpHJ_pure (v := ?vb9) 9 hFa rfl (by kernel_rfl) (fun _ _ _ h => h.elim) (Or.inl ⟨by rfl, ?yb9⟩) (.inr (HVoL.out.step HBO.out).sx) ?rb9
      case yb9 => (intro w' _; go_simp; try rfl)
      simp only [Act.put, List.getElem_toArray, List.getElem_cons_succ, List.getElem_cons_zero, List.setIfInBounds_toArray, List.set_cons_zero, List.set_cons_succ]
      refine wpHJ_only 10 (by kernel_rfl) rfl ?_
      intro K hK
      go_simp
      refine hK _ _ (.inl rfl) ?_
      clear hK K
      refine wpHJ_done (by kernel_rfl) ?_ _
      simp only [onlyN, Exit.then]
      clear hFa
      clear HBd HBA HBB HBd8 HBA8 HVoLd HTd HSM HSN HLX
      have HVo9 := hid (HVoL.out.step HBO.out); have HVv9 := hid (HVvL.out.step HBO.out)
      have HWO := hid (strs_in HW8.out (fun i hi => hi) (HBL.out.trans (HBO.out.mono HBL.out.size)))
      have HES := hid (show Calls Tryd.prog 17 #[.slice pg LL.length cg, .slice pw LL.length cw] wo fun e w' => e = .returned (.bool true) ∧ ∃ n, wo.drewN n = w' from by
        have h := eqstrings_any LL LL _ _ _ _ wo HSG.out HWO.out
        simp only [decide_true] at h
        exact h)
      go_wp2_with (first
        | (go_at_call 17; (with_reducible refine HES.out.mono ?_); rintro e w9 ⟨rfl, n9, hw9⟩; have HB9 := hid (show Below wo.heap.size wo w9 from by rw [← hw9]; exact ⟨rfl, rfl, rfl, Nat.le_refl _, fun _ _ => rfl⟩); clear hw9; have HVoA := hid (HVo9.out.step HB9.out); have HVvA := hid (HVv9.out.step HB9.out); simp only [beq_self_eq_true, bne_self_eq_false]; have x0 : w9.cell? ⟨w4.heap.size, 0, none⟩ = some (.int .u8 (x.kind : Int)) := (by rw [cell_of_row w9 _ 0 _ _ _ HVoA.out.c]; rfl); have x1 : w9.cell? ⟨w4.heap.size, 1, none⟩ = some (.int .u8 (x.reason : Int)) := (by rw [cell_of_row w9 _ 1 _ _ _ HVoA.out.c]; rfl); have x2 : w9.cell? ⟨w4.heap.size, 2, none⟩ = some (.int .i64 x.level) := (by rw [cell_of_row w9 _ 2 _ _ _ HVoA.out.c]; rfl); have x3 : w9.cell? ⟨w4.heap.size, 3, none⟩ = some (.slice p3 x.A.length c3) := (by rw [cell_of_row w9 _ 3 _ _ _ HVoA.out.c]; rfl); have x4 : w9.cell? ⟨w4.heap.size, 4, none⟩ = some (.slice p4 x.B.length c4) := (by rw [cell_of_row w9 _ 4 _ _ _ HVoA.out.c]; rfl); have x5 : w9.cell? ⟨w4.heap.size, 5, none⟩ = some (.bool x.imp) := (by rw [cell_of_row w9 _ 5 _ _ _ HVoA.out.c]; rfl); have x6 : w9.cell? ⟨w4.heap.size, 6, none⟩ = some (.bool x.pol) := (by rw [cell_of_row w9 _ 6 _ _ _ HVoA.out.c]; rfl); have x7 : w9.cell? ⟨w4.heap.size, 7, none⟩ = some (.int .i64 x.line) := (by rw [cell_of_row w9 _ 7 _ _ _ HVoA.out.c]; rfl); have x8 : w9.cell? ⟨w4.heap.size, 8, none⟩ = some (.int .i64 x.col) := (by rw [cell_of_row w9 _ 8 _ _ _ HVoA.out.c]; rfl); have x9 : w9.cell? ⟨w4.heap.size, 9, none⟩ = some (.int .i64 x.err) := (by rw [cell_of_row w9 _ 9 _ _ _ HVoA.out.c]; rfl); have y0 : w9.cell? ⟨w.heap.size, 0, none⟩ = some (.int .u8 (x.kind : Int)) := (by rw [cell_of_row w9 _ 0 _ _ _ HVvA.out.c]; rfl); have y1 : w9.cell? ⟨w.heap.size, 1, none⟩ = some (.int .u8 (x.reason : Int)) := (by rw [cell_of_row w9 _ 1 _ _ _ HVvA.out.c]; rfl); have y2 : w9.cell? ⟨w.heap.size, 2, none⟩ = some (.int .i64 x.level) := (by rw [cell_of_row w9 _ 2 _ _ _ HVvA.out.c]; rfl); have y3 : w9.cell? ⟨w.heap.size, 3, none⟩ = some (.slice p1 x.A.length c1) := (by rw [cell_of_row w9 _ 3 _ _ _ HVvA.out.c]; rfl); have y4 : w9.cell? ⟨w.heap.size, 4, none⟩ = some (.slice p2 x.B.length c2) := (by rw [cell_of_row w9 _ 4 _ _ _ HVvA.out.c]; rfl); have y5 : w9.cell? ⟨w.heap.size, 5, none⟩ = some (.bool x.imp) := (by rw [cell_of_row w9 _ 5 _ _ _ HVvA.out.c]; rfl); have y6 : w9.cell? ⟨w.heap.size, 6, none⟩ = some (.bool x.pol) := (by rw [cell_of_row w9 _ 6 _ _ _ HVvA.out.c]; rfl); have y7 : w9.cell? ⟨w.heap.size, 7, none⟩ = some (.int .i64 x.line) := (by rw [cell_of_row w9 _ 7 _ _ _ HVvA.out.c]; rfl); have y8 : w9.cell? ⟨w.heap.size, 8, none⟩ = some (.int .i64 x.col) := (by rw [cell_of_row w9 _ 8 _ _ _ HVvA.out.c]; rfl); have y9 : w9.cell? ⟨w.heap.size, 9, none⟩ = some (.int .i64 x.err) := (by rw [cell_of_row w9 _ 9 _ _ _ HVvA.out.c]; rfl))
        | (go_at_call 18; (refine (eqvd_box HVoA.out HVvA.out).mono ?_); rintro e wA ⟨he, hbA⟩; rw [decide_eq_true rfl] at he; subst he; have HBA := hid hbA; clear hbA x0 y0 x1 y1 x2 y2 x3 y3 x4 y4 x5 y5 x6 y6 x7 y7 x8 y8 x9 y9))
      have HSW := hid (show Strs (fun i => wl.heap.size ≤ i ∧ Sft wA i) wA (.slice pg LL.length cg) LL from HSG.out.keep fun i hi => have e : wA.heap[i]? = wo.heap[i]? := (HBA.out.block i (Nat.lt_of_lt_of_le hi.2.size HB9.out.size)).trans (HB9.out.block i hi.2.size); ⟨⟨hi.1, hi.2.keep e⟩, e⟩)
      have HBW := hid (HBO.out.trans ((HB9.out.trans (HBA.out.mono HB9.out.size)).mono HBO.out.size))
      clear HSG HWO HES HVoA HVvA HVo9 HVv9 HVoL HVvL HBA HB9 HBO HTL
      go_loopw [13] (fun jv W => ∃ (j : Nat) (l' : List By), j ≤ LL.length ∧ l'.length = LL.length ∧ jv = .int .i64 (j : Int) ∧ Below wl.heap.size wl W ∧ Strs (fun i => wl.heap.size ≤ i ∧ Sft W i) W (.slice pg LL.length cg) l') (fun jv _ => LL.length - (intOf jv).toNat)
      case atStart => exact ⟨0, LL, Nat.zero_le _, rfl, rfl, HBW.out, HSW.out⟩
      case round =>
        obtain ⟨j, l', hj, hl', rfl, hbW, hsW⟩ := hrel
        obtain ⟨wj, rfl⟩ : ∃ w : World, w = wr := ⟨_, rfl⟩
        have HBJ := hid hbW; have HSJ := hid hsW
        clear hbW hsW HBW HSW
        by_cases hlt : j < LL.length
        · obtain ⟨pp, cc2, epp, hcc, hcm, hlb, hrr⟩ := HSJ.out.op
          have e1 : pg = pp := by injection epp
          have e2 : cg = cc2 := by injection epp
          subst e1 e2
          obtain ⟨b, off, rfl, hRb, hcl⟩ := hrr.atS j (by omega)
          have y0 : wj.cell? ⟨b, off + j, none⟩ = some (.string ⟨(l'[j]'(by omega)).toArray⟩) := hcl j (by omega)
          have f0 : wj.frozen? ⟨b, off + j, none⟩ = false := hRb.2.frozen
          have HRR := hid hrr; have HRB := hid hRb; have HCC := hid (And.intro hcc (And.intro hcm hlb))
          have hj63 : (j : Int) + 1 ≤ 9223372036854775807 := by omega
          clear hrr hcl epp hRb hcc hcm hlb HSJ
          go_wp2_with fail
          go_roundw
          case rel => exact ⟨j + 1, l'.set j [], by omega, by rw [List.length_set]; exact hl', by go_num, HBJ.out.setCell (p := ⟨b, off + j, none⟩) HRB.out.1 _, strs_set HRR.out HCC.out.1 HCC.out.2.1 HCC.out.2.2 hl' j (by omega)⟩
          case measure => simp [intOf]; omega
        · obtain rfl : j = LL.length := by omega
          go_wp2_with fail
          go_roundw
          case rel => exact ⟨k + 1, by omega, by go_num, HBL.out.trans (HBJ.out.mono HBL.out.size)⟩
          case measure => simp [intOf]; omega
    · obtain rfl : k = 2 := by omega
      have t1 : decide (((2 : Nat) : Int) < 2) = false := by decide
      go_wp2_with (go_at_call 11; (with_reducible refine (awake_any _ (HT.out.below HBTl.out)).mono ?_); rintro e w9 ⟨rfl, hb⟩; have HB9 := hid (HBTl.out.trans (hb.mono HBTl.out.size)); clear hb)
      go_ret
      exact ⟨rfl, HB9.out⟩

end Go.Proofs.YtehjfmbnebeioaaDoor
