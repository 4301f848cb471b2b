/-
  The walk of ReportTells.
-/
import Derived.Test.YtehjfmbnebeioaaDoorRqA
import Derived.Test.YtehjfmbnebeioaaDoorRqO
namespace Go.Proofs.YtehjfmbnebeioaaDoor
set_option linter.unusedSimpArgs false
set_option linter.unusedVariables false
open Go.RowKit Go.Shelf
attribute [local go_sem] Oper.semAt_some

set_option maxRecDepth 100000 in
set_option maxHeartbeats 4000000 in
theorem tells_any (v u : Vd) (pA pB qA qB : Option Addr) (cA cB dA dB : Nat) (lv ch : Int) (w : World) (hv : VdOk v) (hu : VdOk u) (hvA : NLL (fun i => i < w.heap.size) w (.slice pA v.A.length cA) v.A) (hvB : NLL (fun i => i < w.heap.size) w (.slice pB v.B.length cB) v.B) (huA : NLL (fun i => i < w.heap.size) w (.slice qA u.A.length dA) u.A) (huB : NLL (fun i => i < w.heap.size) w (.slice qB u.B.length dB) u.B)
    (lvA : ∀ y ∈ v.A, y.length ≤ 17592186044415) (lvB : ∀ y ∈ v.B, y.length ≤ 17592186044415) (luA : ∀ y ∈ u.A, y.length ≤ 17592186044415) (luB : ∀ y ∈ u.B, y.length ≤ 17592186044415) (hlv : -9223372036854775808 ≤ lv ∧ lv ≤ 9223372036854775807) (hch : -9223372036854775808 ≤ ch ∧ ch ≤ 9223372036854775807) (ht : Tabs w) :
    Calls Tryd.prog 5 #[.agg #[.int .u8 (v.kind : Int), .int .u8 (v.reason : Int), .int .i64 v.level, .slice pA v.A.length cA, .slice pB v.B.length cB, .bool v.imp, .bool v.pol, .int .i64 v.line, .int .i64 v.col, .int .i64 v.err], .agg #[.int .u8 (u.kind : Int), .int .u8 (u.reason : Int), .int .i64 u.level, .slice qA u.A.length dA, .slice qB u.B.length dB, .bool u.imp, .bool u.pol, .int .i64 u.line, .int .i64 u.col, .int .i64 u.err], .int .i64 lv, .int .i64 ch] w fun e w' => e = .returned (.bool true) ∧ Below w.heap.size w w' := by
  obtain ⟨W0, hW0⟩ : ∃ W, (w.alloc (.cells #[.int .u8 (v.kind : Int), .int .u8 (v.reason : Int), .int .i64 v.level, .slice pA v.A.length cA, .slice pB v.B.length cB, .bool v.imp, .bool v.pol, .int .i64 v.line, .int .i64 v.col, .int .i64 v.err] 35)).alloc (.cells #[.int .u8 (u.kind : Int), .int .u8 (u.reason : Int), .int .i64 u.level, .slice qA u.A.length dA, .slice qB u.B.length dB, .bool u.imp, .bool u.pol, .int .i64 u.line, .int .i64 u.col, .int .i64 u.err] 35) = W := ⟨_, rfl⟩
  have hb0 : Below w.heap.size w W0 := by rw [← hW0]; exact ((Below.refl _ _).alloc (Nat.le_refl _) _).alloc (by rw [World.size_alloc]; omega) _
  have hz0 : W0.heap.size = w.heap.size + 2 := by rw [← hW0, World.size_alloc, World.size_alloc]
  have hc0 : W0.heap[w.heap.size]? = some (.cells #[.int .u8 (v.kind : Int), .int .u8 (v.reason : Int), .int .i64 v.level, .slice pA v.A.length cA, .slice pB v.B.length cB, .bool v.imp, .bool v.pol, .int .i64 v.line, .int .i64 v.col, .int .i64 v.err] 35 (0, 0)) := by rw [← hW0, heap_al, if_neg (by rw [World.size_alloc]; omega), heap_al, if_pos rfl]
  have hc1 : W0.heap[w.heap.size + 1]? = some (.cells #[.int .u8 (u.kind : Int), .int .u8 (u.reason : Int), .int .i64 u.level, .slice qA u.A.length dA, .slice qB u.B.length dB, .bool u.imp, .bool u.pol, .int .i64 u.line, .int .i64 u.col, .int .i64 u.err] 35 (0, 0)) := by rw [← hW0, heap_al, if_pos (by rw [World.size_alloc])]
  have up : ∀ i, i < w.heap.size → i < W0.heap.size ∧ W0.heap[i]? = w.heap[i]? := fun i hi => ⟨by omega, hb0.block i hi⟩
  have HV := hid (show VB W0 (w.heap.size) v pA cA pB cB from ⟨hc0, hvA.keep up, hvB.keep up⟩)
  have HU := hid (show VB W0 (w.heap.size + 1) u qA dA qB dB from ⟨hc1, huA.keep up, huB.keep up⟩)
  have HUA := hid huA; have HUB := hid huB
  obtain ⟨q, hq⟩ : ∃ q : Nat, lv % 5 = (q : Int) := ⟨(lv % 5).toNat, by omega⟩
  obtain ⟨n, hn⟩ : ∃ n : Nat, ch % 5 = (n : Int) := ⟨(ch % 5).toNat, by omega⟩
  have HQ := hid (kmod_lit lv 5 q hlv (by omega) hq)
  have HN := hid (kmod_lit ch 5 n hch (by omega) hn)
  have hq4 : q ≤ 4 := by omega
  have hn4 : n ≤ 4 := by omega
  obtain ⟨m, hm⟩ : ∃ m : Nat, m = 1 + q := ⟨_, rfl⟩
  have em : 1 + (q : Int) = (m : Int) := by omega
  have hm1 : 1 ≤ m ∧ m ≤ 5 := by omega
  obtain ⟨x, hx⟩ : ∃ x, madeV v m n = x := ⟨_, rfl⟩
  obtain ⟨y, hy⟩ : ∃ y, madeV u m n = y := ⟨_, rfl⟩
  have hxo : VdOk x := by rw [← hx]; exact made_ok v m n hv (by omega)
  have hyo : VdOk y := by rw [← hy]; exact made_ok u m n hu (by omega)
  have hxm : Mv m n x := by rw [← hx]; exact made_mv v m n (by omega)
  have hym : Mv m n y := by rw [← hy]; exact made_mv u m n (by omega)
  obtain ⟨l1, hl1⟩ : ∃ l, (vlinesR x (namesL m) (namesL n)).1 = l := ⟨_, rfl⟩
  obtain ⟨l2, hl2⟩ : ∃ l, (vlinesR y (namesL m) (namesL n)).1 = l := ⟨_, rfl⟩
  obtain ⟨r, hr, hr2⟩ : ∃ r, decide (l1 = l2) = r ∧ decide (x = y) = r := by
    refine ⟨_, rfl, ?_⟩
    by_cases h : x = y
    · subst h; rw [← hl1, ← hl2]; simp
    · have : ¬ l1 = l2 := fun e => h (tells hxm hym (by omega) (by rw [hl1, hl2, e]))
      rw [decide_eq_false h, decide_eq_false this]
  have HMV := hid (fun W (h : VB W (w.heap.size) v pA cA pB cB) => made_boxV m n h hv (by omega) (by omega) lvA lvB x hx)
  have HMU := hid (fun W (h : VB W (w.heap.size + 1) u qA dA qB dB) => made_boxV m n h hu (by omega) (by omega) luA luB y hy)
  have HNM := hid (fun W => names_box m W (by omega))
  have HNC := hid (fun W => names_box n W (by omega))
  have HLX := hid (fun (W : World) (p1 : Option Addr) (c1 : Nat) (p2 : Option Addr) (c2 : Nat) (vl vc : Value) (h : VB W (w.heap.size) x p1 c1 p2 c2) => lines_boxV (vl := vl) (vc := vc) hxo hxm (by omega) l1 hl1 h)
  have HLY := hid (fun (W : World) (p1 : Option Addr) (c1 : Nat) (p2 : Option Addr) (c2 : Nat) (vl vc : Value) (h : VB W (w.heap.size + 1) y p1 c1 p2 c2) => lines_boxV (vl := vl) (vc := vc) hyo hym (by omega) l2 hl2 h)
  have HR := hid hr; have HR2 := hid hr2
  have HB0 := hid hb0; have HZ := hid hz0; have HWW := hid hW0; have HT := hid ht
  have hS : (Sx (w.heap.size + 1) u qA dA qB dB) W0.drew := (HU.out.step (below_self _)).sx
  clear hvA hvB huA huB hb0 hz0 hc0 hc1 hW0 up lvA lvB luA luB hv hu hxo hyo hxm hym hl1 hl2 hr hr2 hx hy hq hn ht hm
  go_enter Tryd.func5, Tryd.ntmps5
  go_wp2_with (go_at_call 13; (first | with_reducible refine (HQ.out _).mono ?_ | with_reducible refine (HN.out _).mono ?_); rintro e w1 ⟨rfl, rfl⟩)
  rw [HWW.out]
  have hFa : ∀ f, Fence.wide.fn f := fun _ => trivial
  refine (wpIn_wide (n := 9)).1 ?_
  refine wpIn_onlyN ?_
  refine wpIn_region_HJ (Sx (w.heap.size + 1) u qA dA qB dB) 9 (by kernel_rfl) ?_
  simp only [List.size_toArray, List.length_cons, List.length_nil, Nat.reduceAdd]
  refine wpHJ_pure (v := ?va1) 1 hFa rfl (by kernel_rfl) (fun _ _ _ h => h.elim) (Or.inl ⟨by rfl, ?ya1⟩) (.inr hS) ?ra1
  case ya1 => (intro w' _; go_simp; try rfl)
  simp only [Act.put, List.getElem_toArray, List.getElem_cons_succ, List.getElem_cons_zero, List.setIfInBounds_toArray, List.set_cons_zero, List.set_cons_succ]
  refine wpHJ_pure (v := ?va2) 2 hFa rfl (by kernel_rfl) (fun _ _ _ h => h.elim) (Or.inl ⟨by rfl, ?ya2⟩) (.inr hS) ?ra2
  case ya2 => (intro w' _; go_simp; try rfl)
  simp only [Act.put, List.getElem_toArray, List.getElem_cons_succ, List.getElem_cons_zero, List.setIfInBounds_toArray, List.set_cons_zero, List.set_cons_succ]
  refine wpHJ_take (v := ?va4) 4 hFa rfl (by kernel_rfl) (fun _ _ _ h => h.elim) (Or.inl ⟨by rfl, ?ya4⟩) hS ?ra4
  case ya4 => (intro w' hS'; obtain ⟨s0, s1, s2, s3, s4, s5, s6, s7, s8, s9⟩ := hS'; go_simp; try rfl)
  simp only [Act.put, List.getElem_toArray, List.getElem_cons_succ, List.getElem_cons_zero, List.setIfInBounds_toArray, List.set_cons_zero, List.set_cons_succ]
  refine wpHJ_pure (v := ?va5) 5 hFa rfl (by kernel_rfl) (fun _ _ _ h => h.elim) (Or.inl ⟨by rfl, ?ya5⟩) (.inr hS) ?ra5
  case ya5 => (intro w' _; go_simp; try rfl)
  simp only [Act.put, List.getElem_toArray, List.getElem_cons_succ, List.getElem_cons_zero, List.setIfInBounds_toArray, List.set_cons_zero, List.set_cons_succ]
  refine wpHJ_pure (v := ?va6) 6 hFa rfl (by kernel_rfl) (fun _ _ _ h => h.elim) (Or.inl ⟨by rfl, ?ya6⟩) (.inr hS) ?ra6
  case ya6 => (intro w' _; go_simp; try rfl)
  simp only [Act.put, List.getElem_toArray, List.getElem_cons_succ, List.getElem_cons_zero, List.setIfInBounds_toArray, List.set_cons_zero, List.set_cons_succ]
  clear hS
  have hbd := below_self W0
  have hvd := HV.out.step hbd
  have hud := HU.out.step hbd
  have hbw := HB0.out.trans (hbd.mono HB0.out.size)
  have hsd : W0.drew.heap.size = w.heap.size + 2 := HZ.out
  have hkd : ∀ i, i < w.heap.size → W0.drew.heap[i]? = w.heap[i]? := fun i hi => hbw.block i hi
  generalize W0.drew = wd at *
  have HVd := hid hvd; have HUd := hid hud; have HBD := hid hbw; have HSD := hid hsd; have HKD := hid hkd
  clear hvd hud hbw hsd hkd hbd
  refine wpHJ_only 0 (by kernel_rfl) rfl ?_
  intro K hK
  have x0 : wd.cell? ⟨w.heap.size, 0, none⟩ = some (.int .u8 (v.kind : Int)) := (by rw [cell_of_row wd _ 0 _ _ _ HVd.out.c]; rfl)
  have x1 : wd.cell? ⟨w.heap.size, 1, none⟩ = some (.int .u8 (v.reason : Int)) := (by rw [cell_of_row wd _ 1 _ _ _ HVd.out.c]; rfl)
  have x2 : wd.cell? ⟨w.heap.size, 2, none⟩ = some (.int .i64 v.level) := (by rw [cell_of_row wd _ 2 _ _ _ HVd.out.c]; rfl)
  have x3 : wd.cell? ⟨w.heap.size, 3, none⟩ = some (.slice pA v.A.length cA) := (by rw [cell_of_row wd _ 3 _ _ _ HVd.out.c]; rfl)
  have x4 : wd.cell? ⟨w.heap.size, 4, none⟩ = some (.slice pB v.B.length cB) := (by rw [cell_of_row wd _ 4 _ _ _ HVd.out.c]; rfl)
  have x5 : wd.cell? ⟨w.heap.size, 5, none⟩ = some (.bool v.imp) := (by rw [cell_of_row wd _ 5 _ _ _ HVd.out.c]; rfl)
  have x6 : wd.cell? ⟨w.heap.size, 6, none⟩ = some (.bool v.pol) := (by rw [cell_of_row wd _ 6 _ _ _ HVd.out.c]; rfl)
  have x7 : wd.cell? ⟨w.heap.size, 7, none⟩ = some (.int .i64 v.line) := (by rw [cell_of_row wd _ 7 _ _ _ HVd.out.c]; rfl)
  have x8 : wd.cell? ⟨w.heap.size, 8, none⟩ = some (.int .i64 v.col) := (by rw [cell_of_row wd _ 8 _ _ _ HVd.out.c]; rfl)
  have x9 : wd.cell? ⟨w.heap.size, 9, none⟩ = some (.int .i64 v.err) := (by rw [cell_of_row wd _ 9 _ _ _ HVd.out.c]; rfl)
  go_simp
  clear x0 x1 x2 x3 x4 x5 x6 x7 x8 x9
  refine hK _ _ (.inr (.inr HUd.out.sx)) ?_
  clear hK K
  refine wpHJ_only 3 (by kernel_rfl) rfl ?_
  intro K hK
  go_simp
  (with_reducible refine (callsIn_wide.2 (HMV.out wd HVd.out)).mono ?_)
  rintro e w2 ⟨hb2, p1, c1, p2, c2, rfl, hx1, hx2⟩
  have hv2 := HVd.out.step hb2
  have hu2 := HUd.out.step hb2
  have HV2 := hid hv2; have HU2 := hid hu2; have HX1 := hid hx1; have HX2 := hid hx2; have HB2 := hid hb2
  clear hv2 hu2 hx1 hx2 hb2
  refine hK _ _ (.inr (.inr HU2.out.sx)) ?_
  clear hK K
  refine wpHJ_only 7 (by kernel_rfl) rfl ?_
  intro K hK
  go_simp
  (with_reducible refine (callsIn_wide.2 (HMU.out w2 HU2.out)).mono ?_)
  rintro e w3 ⟨hb3, r1, e1, r2, e2, rfl, hy1, hy2⟩
  have hv3 := HV2.out.step hb3
  have hu3 := HU2.out.step hb3
  have HV3 := hid hv3; have HU3 := hid hu3; have HY1 := hid hy1; have HY2 := hid hy2; have HB3 := hid hb3
  clear hv3 hu3 hy1 hy2 hb3
  have x0 : w3.cell? ⟨w.heap.size, 0, none⟩ = some (.int .u8 (v.kind : Int)) := (by rw [cell_of_row w3 _ 0 _ _ _ HV3.out.c]; rfl)
  have f0 : w3.frozen? ⟨w.heap.size, 0, none⟩ = false := frozen_of_row w3 _ 0 _ _ HV3.out.c
  have x1 : w3.cell? ⟨w.heap.size, 1, none⟩ = some (.int .u8 (v.reason : Int)) := (by rw [cell_of_row w3 _ 1 _ _ _ HV3.out.c]; rfl)
  have f1 : w3.frozen? ⟨w.heap.size, 1, none⟩ = false := frozen_of_row w3 _ 1 _ _ HV3.out.c
  have x2 : w3.cell? ⟨w.heap.size, 2, none⟩ = some (.int .i64 v.level) := (by rw [cell_of_row w3 _ 2 _ _ _ HV3.out.c]; rfl)
  have f2 : w3.frozen? ⟨w.heap.size, 2, none⟩ = false := frozen_of_row w3 _ 2 _ _ HV3.out.c
  have x3 : w3.cell? ⟨w.heap.size, 3, none⟩ = some (.slice pA v.A.length cA) := (by rw [cell_of_row w3 _ 3 _ _ _ HV3.out.c]; rfl)
  have f3 : w3.frozen? ⟨w.heap.size, 3, none⟩ = false := frozen_of_row w3 _ 3 _ _ HV3.out.c
  have x4 : w3.cell? ⟨w.heap.size, 4, none⟩ = some (.slice pB v.B.length cB) := (by rw [cell_of_row w3 _ 4 _ _ _ HV3.out.c]; rfl)
  have f4 : w3.frozen? ⟨w.heap.size, 4, none⟩ = false := frozen_of_row w3 _ 4 _ _ HV3.out.c
  have x5 : w3.cell? ⟨w.heap.size, 5, none⟩ = some (.bool v.imp) := (by rw [cell_of_row w3 _ 5 _ _ _ HV3.out.c]; rfl)
  have f5 : w3.frozen? ⟨w.heap.size, 5, none⟩ = false := frozen_of_row w3 _ 5 _ _ HV3.out.c
  have x6 : w3.cell? ⟨w.heap.size, 6, none⟩ = some (.bool v.pol) := (by rw [cell_of_row w3 _ 6 _ _ _ HV3.out.c]; rfl)
  have f6 : w3.frozen? ⟨w.heap.size, 6, none⟩ = false := frozen_of_row w3 _ 6 _ _ HV3.out.c
  have x7 : w3.cell? ⟨w.heap.size, 7, none⟩ = some (.int .i64 v.line) := (by rw [cell_of_row w3 _ 7 _ _ _ HV3.out.c]; rfl)
  have f7 : w3.frozen? ⟨w.heap.size, 7, none⟩ = false := frozen_of_row w3 _ 7 _ _ HV3.out.c
  have x8 : w3.cell? ⟨w.heap.size, 8, none⟩ = some (.int .i64 v.col) := (by rw [cell_of_row w3 _ 8 _ _ _ HV3.out.c]; rfl)
  have f8 : w3.frozen? ⟨w.heap.size, 8, none⟩ = false := frozen_of_row w3 _ 8 _ _ HV3.out.c
  have x9 : w3.cell? ⟨w.heap.size, 9, none⟩ = some (.int .i64 v.err) := (by rw [cell_of_row w3 _ 9 _ _ _ HV3.out.c]; rfl)
  have f9 : w3.frozen? ⟨w.heap.size, 9, none⟩ = false := frozen_of_row w3 _ 9 _ _ HV3.out.c
  refine hK _ _ (.inr (.inr HU3.out.sx)) ?_
  clear hK K
  refine wpHJ_only 8 (by kernel_rfl) rfl ?_
  intro K hK
  go_simp
  obtain ⟨w4, hw4⟩ : ∃ W, ((((((((((w3).setCell ⟨w.heap.size, 0, none⟩ (.int .u8 (x.kind : Int))).setCell ⟨w.heap.size, 1, none⟩ (.int .u8 (x.reason : Int))).setCell ⟨w.heap.size, 2, none⟩ (.int .i64 x.level)).setCell ⟨w.heap.size, 3, none⟩ (.slice p1 x.A.length c1)).setCell ⟨w.heap.size, 4, none⟩ (.slice p2 x.B.length c2)).setCell ⟨w.heap.size, 5, none⟩ (.bool x.imp)).setCell ⟨w.heap.size, 6, none⟩ (.bool x.pol)).setCell ⟨w.heap.size, 7, none⟩ (.int .i64 x.line)).setCell ⟨w.heap.size, 8, none⟩ (.int .i64 x.col)).setCell ⟨w.heap.size, 9, none⟩ (.int .i64 x.err) = W := ⟨_, rfl⟩
  rw [hw4]
  have sz2 := HB2.out.size
  have sz3 := HB3.out.size
  have szd := HSD.out
  obtain ⟨hx4, hk4, hs4, hb4⟩ := HV3.out.of_set (x := x) (p1 := p1) (c1 := c1) (p2 := p2) (c2 := c2) (HX1.out.keep fun i hi => ⟨hi, HB3.out.block i hi.2⟩) (HX2.out.keep fun i hi => ⟨hi, HB3.out.block i hi.2⟩) (fun i hi => ⟨by omega, by omega⟩) (fun i hi => ⟨by omega, by omega⟩) hw4
  have kd3 : ∀ i, i < w.heap.size → w3.heap[i]? = w.heap[i]? := fun i hi => (HB3.out.block i (by omega)).trans ((HB2.out.block i (by omega)).trans (HKD.out i hi))
  have hu4 : VB w4 (w.heap.size + 1) u qA dA qB dB := HU3.out.other (HUA.out.keep fun i hi => ⟨hi, kd3 i hi⟩) (HUB.out.keep fun i hi => ⟨hi, kd3 i hi⟩) (fun i hi => ⟨by omega, by omega⟩) (by omega) hk4 hs4
  have HX4 := hid hx4; have HU4 := hid hu4; have HK4 := hid hk4; have HS4 := hid hs4; have HB4 := hid (hb4 (HBD.out.trans ((HB2.out.mono (by omega)).trans (HB3.out.mono (by omega)))) (Nat.le_refl _))
  clear hx4 hu4 hk4 hs4 hb4 kd3 sz2 sz3 szd hw4 x0 f0 x1 f1 x2 f2 x3 f3 x4 f4 x5 f5 x6 f6 x7 f7 x8 f8 x9 f9
  have x0 : w4.cell? ⟨w.heap.size + 1, 0, none⟩ = some (.int .u8 (u.kind : Int)) := (by rw [cell_of_row w4 _ 0 _ _ _ HU4.out.c]; rfl)
  have f0 : w4.frozen? ⟨w.heap.size + 1, 0, none⟩ = false := frozen_of_row w4 _ 0 _ _ HU4.out.c
  have x1 : w4.cell? ⟨w.heap.size + 1, 1, none⟩ = some (.int .u8 (u.reason : Int)) := (by rw [cell_of_row w4 _ 1 _ _ _ HU4.out.c]; rfl)
  have f1 : w4.frozen? ⟨w.heap.size + 1, 1, none⟩ = false := frozen_of_row w4 _ 1 _ _ HU4.out.c
  have x2 : w4.cell? ⟨w.heap.size + 1, 2, none⟩ = some (.int .i64 u.level) := (by rw [cell_of_row w4 _ 2 _ _ _ HU4.out.c]; rfl)
  have f2 : w4.frozen? ⟨w.heap.size + 1, 2, none⟩ = false := frozen_of_row w4 _ 2 _ _ HU4.out.c
  have x3 : w4.cell? ⟨w.heap.size + 1, 3, none⟩ = some (.slice qA u.A.length dA) := (by rw [cell_of_row w4 _ 3 _ _ _ HU4.out.c]; rfl)
  have f3 : w4.frozen? ⟨w.heap.size + 1, 3, none⟩ = false := frozen_of_row w4 _ 3 _ _ HU4.out.c
  have x4 : w4.cell? ⟨w.heap.size + 1, 4, none⟩ = some (.slice qB u.B.length dB) := (by rw [cell_of_row w4 _ 4 _ _ _ HU4.out.c]; rfl)
  have f4 : w4.frozen? ⟨w.heap.size + 1, 4, none⟩ = false := frozen_of_row w4 _ 4 _ _ HU4.out.c
  have x5 : w4.cell? ⟨w.heap.size + 1, 5, none⟩ = some (.bool u.imp) := (by rw [cell_of_row w4 _ 5 _ _ _ HU4.out.c]; rfl)
  have f5 : w4.frozen? ⟨w.heap.size + 1, 5, none⟩ = false := frozen_of_row w4 _ 5 _ _ HU4.out.c
  have x6 : w4.cell? ⟨w.heap.size + 1, 6, none⟩ = some (.bool u.pol) := (by rw [cell_of_row w4 _ 6 _ _ _ HU4.out.c]; rfl)
  have f6 : w4.frozen? ⟨w.heap.size + 1, 6, none⟩ = false := frozen_of_row w4 _ 6 _ _ HU4.out.c
  have x7 : w4.cell? ⟨w.heap.size + 1, 7, none⟩ = some (.int .i64 u.line) := (by rw [cell_of_row w4 _ 7 _ _ _ HU4.out.c]; rfl)
  have f7 : w4.frozen? ⟨w.heap.size + 1, 7, none⟩ = false := frozen_of_row w4 _ 7 _ _ HU4.out.c
  have x8 : w4.cell? ⟨w.heap.size + 1, 8, none⟩ = some (.int .i64 u.col) := (by rw [cell_of_row w4 _ 8 _ _ _ HU4.out.c]; rfl)
  have f8 : w4.frozen? ⟨w.heap.size + 1, 8, none⟩ = false := frozen_of_row w4 _ 8 _ _ HU4.out.c
  have x9 : w4.cell? ⟨w.heap.size + 1, 9, none⟩ = some (.int .i64 u.err) := (by rw [cell_of_row w4 _ 9 _ _ _ HU4.out.c]; rfl)
  have f9 : w4.frozen? ⟨w.heap.size + 1, 9, none⟩ = false := frozen_of_row w4 _ 9 _ _ HU4.out.c
  refine hK _ _ (.inr (.inr HU4.out.sx)) ?_
  clear hK K
  refine wpHJ_only 9 (by kernel_rfl) rfl ?_
  intro K hK
  go_simp
  obtain ⟨w5, hw5⟩ : ∃ W, ((((((((((w4).setCell ⟨w.heap.size + 1, 0, none⟩ (.int .u8 (y.kind : Int))).setCell ⟨w.heap.size + 1, 1, none⟩ (.int .u8 (y.reason : Int))).setCell ⟨w.heap.size + 1, 2, none⟩ (.int .i64 y.level)).setCell ⟨w.heap.size + 1, 3, none⟩ (.slice r1 y.A.length e1)).setCell ⟨w.heap.size + 1, 4, none⟩ (.slice r2 y.B.length e2)).setCell ⟨w.heap.size + 1, 5, none⟩ (.bool y.imp)).setCell ⟨w.heap.size + 1, 6, none⟩ (.bool y.pol)).setCell ⟨w.heap.size + 1, 7, none⟩ (.int .i64 y.line)).setCell ⟨w.heap.size + 1, 8, none⟩ (.int .i64 y.col)).setCell ⟨w.heap.size + 1, 9, none⟩ (.int .i64 y.err) = W := ⟨_, rfl⟩
  rw [hw5]
  have sz2 := HB2.out.size
  have sz3 := HB3.out.size
  have szd := HSD.out
  have sz4 := HS4.out
  obtain ⟨hy5, hk5, hs5, hb5⟩ := HU4.out.of_set (x := y) (p1 := r1) (c1 := e1) (p2 := r2) (c2 := e2) (HY1.out.keep fun i hi => ⟨hi, HK4.out i (by omega)⟩) (HY2.out.keep fun i hi => ⟨hi, HK4.out i (by omega)⟩) (fun i hi => ⟨by omega, by omega⟩) (fun i hi => ⟨by omega, by omega⟩) hw5
  have k24 : ∀ i, (wd.heap.size ≤ i ∧ i < w2.heap.size) → w4.heap[i]? = w2.heap[i]? := fun i hi => (HK4.out i (by omega)).trans (HB3.out.block i hi.2)
  have hx5 : VB w5 (w.heap.size) x p1 c1 p2 c2 := HX4.out.other (HX1.out.keep fun i hi => ⟨hi, k24 i hi⟩) (HX2.out.keep fun i hi => ⟨hi, k24 i hi⟩) (fun i hi => ⟨by omega, by omega⟩) (by omega) hk5 hs5
  have HX5 := hid hx5; have HY5 := hid hy5; have HB5 := hid (hb5 HB4.out (by omega))
  clear hx5 hy5 hk5 hs5 hb5 k24 sz2 sz3 szd sz4 hw5 x0 f0 x1 f1 x2 f2 x3 f3 x4 f4 x5 f5 x6 f6 x7 f7 x8 f8 x9 f9
  refine hK _ _ (.inl rfl) ?_
  clear hK K
  refine wpHJ_done (by kernel_rfl) ?_ _
  simp only [onlyN, Exit.then]
  clear hFa
  have HT5 := hid (HT.out.below HB5.out)
  go_wp2_with fail
  have hS : (Sx (w.heap.size) x p1 c1 p2 c2) w5.drew := (HX5.out.step (below_self _)).sx
  have hFa : ∀ f, Fence.wide.fn f := fun _ => trivial
  refine (wpIn_wide (n := 9)).1 ?_
  refine wpIn_onlyN ?_
  refine wpIn_region_HJ (Sx (w.heap.size) x p1 c1 p2 c2) 10 (by kernel_rfl) ?_
  simp only [List.size_toArray, List.length_cons, List.length_nil, Nat.reduceAdd]
  refine wpHJ_take (v := ?vb0) 0 hFa rfl (by kernel_rfl) (fun _ _ _ h => h.elim) (Or.inl ⟨by rfl, ?yb0⟩) hS ?rb0
  case yb0 => (intro w' hS'; obtain ⟨s0, s1, s2, s3, s4, s5, s6, s7, s8, s9⟩ := hS'; go_simp; try rfl)
  simp only [Act.put, List.getElem_toArray, List.getElem_cons_succ, List.getElem_cons_zero, List.setIfInBounds_toArray, List.set_cons_zero, List.set_cons_succ]
  refine wpHJ_pure (v := ?vb1) 1 hFa rfl (by kernel_rfl) (fun _ _ _ h => h.elim) (Or.inl ⟨by rfl, ?yb1⟩) (.inr hS) ?rb1
  case yb1 => (intro w' _; go_simp; try rfl)
  simp only [Act.put, List.getElem_toArray, List.getElem_cons_succ, List.getElem_cons_zero, List.setIfInBounds_toArray, List.set_cons_zero, List.set_cons_succ]
  refine wpHJ_pure (v := ?vb3) 3 hFa rfl (by kernel_rfl) (fun _ _ _ h => h.elim) (Or.inl ⟨by rfl, ?yb3⟩) (.inr hS) ?rb3
  case yb3 => (intro w' _; go_simp; try rfl)
  simp only [Act.put, List.getElem_toArray, List.getElem_cons_succ, List.getElem_cons_zero, List.setIfInBounds_toArray, List.set_cons_zero, List.set_cons_succ]
  clear hS
  have hbd := below_self w5
  have hvd := HX5.out.step hbd
  have htd := HT5.out.below hbd
  generalize w5.drew = wd3 at *
  have HX5d := hid hvd; have HBd := hid hbd; have HTd := hid htd
  clear hvd hbd htd
  refine wpHJ_only 2 (by kernel_rfl) rfl ?_
  intro K hK
  go_simp
  (with_reducible refine (callsIn_wide.2 (HNM.out wd3)).mono ?_)
  rintro e wd3a ⟨hba, pm, cm, rfl, hsm⟩
  have HBA := hid hba; have HSM := hid hsm
  clear hba hsm
  refine hK _ _ (.inr (.inr (HX5d.out.step HBA.out).sx)) ?_
  clear hK K
  refine wpHJ_only 4 (by kernel_rfl) rfl ?_
  intro K hK
  go_simp
  (with_reducible refine (callsIn_wide.2 (HNC.out wd3a)).mono ?_)
  rintro e wd3b ⟨hbb, pn, cn, rfl, hsn⟩
  have HBB := hid hbb; have HSN := hid hsn
  clear hbb hsn
  refine hK _ _ (.inr (.inr ((HX5d.out.step HBA.out).step HBB.out).sx)) ?_
  clear hK K
  refine wpHJ_only 5 (by kernel_rfl) rfl ?_
  intro K hK
  go_simp
  (with_reducible refine (callsIn_wide.2 (HLX.out _ _ _ _ _ _ _ ((HX5d.out.step HBA.out).step HBB.out) (HSM.out.keep fun i hi => ⟨Nat.lt_of_lt_of_le hi HBB.out.size, HBB.out.block i hi⟩) HSN.out ((HTd.out.below HBA.out).below HBB.out))).mono ?_)
  rintro e w6 ⟨hbc, pl1, cl1, rfl, hsl⟩
  have hbo := HBd.out.trans ((HBA.out.trans (HBB.out.mono HBA.out.size)).trans (hbc.mono (Nat.le_trans HBA.out.size HBB.out.size)) |>.mono HBd.out.size)
  have HBO := hid hbo; have HSL1 := hid hsl
  clear hbc hsl hbo
  refine hK _ _ (.inr (.inr (HX5.out.step HBO.out).sx)) ?_
  clear hK K
  refine wpHJ_pure (v := ?vb6) 6 hFa rfl (by kernel_rfl) (fun _ _ _ h => h.elim) (Or.inl ⟨by rfl, ?yb6⟩) (.inr (HX5.out.step HBO.out).sx) ?rb6
  case yb6 => (intro w' _; go_simp; try rfl)
  simp only [Act.put, List.getElem_toArray, List.getElem_cons_succ, List.getElem_cons_zero, List.setIfInBounds_toArray, List.set_cons_zero, List.set_cons_succ]
  refine wpHJ_pure (v := ?vb7) 7 hFa rfl (by kernel_rfl) (fun _ _ _ h => h.elim) (Or.inl ⟨by rfl, ?yb7⟩) (.inr (HX5.out.step HBO.out).sx) ?rb7
  case yb7 => (intro w' _; go_simp; try rfl)
  simp only [Act.put, List.getElem_toArray, List.getElem_cons_succ, List.getElem_cons_zero, List.setIfInBounds_toArray, List.set_cons_zero, List.set_cons_succ]
  refine wpHJ_pure (v := ?vb8) 8 hFa rfl (by kernel_rfl) (fun _ _ _ h => h.elim) (Or.inl ⟨by rfl, ?yb8⟩) (.inr (HX5.out.step HBO.out).sx) ?rb8
  case yb8 => (intro w' _; go_simp; try rfl)
  simp only [Act.put, List.getElem_toArray, List.getElem_cons_succ, List.getElem_cons_zero, List.setIfInBounds_toArray, List.set_cons_zero, List.set_cons_succ]
  refine wpHJ_pure (v := ?vb9) 9 hFa rfl (by kernel_rfl) (fun _ _ _ h => h.elim) (Or.inl ⟨by rfl, ?yb9⟩) (.inr (HX5.out.step HBO.out).sx) ?rb9
  case yb9 => (intro w' _; go_simp; try rfl)
  simp only [Act.put, List.getElem_toArray, List.getElem_cons_succ, List.getElem_cons_zero, List.setIfInBounds_toArray, List.set_cons_zero, List.set_cons_succ]
  refine wpHJ_only 10 (by kernel_rfl) rfl ?_
  intro K hK
  go_simp
  refine hK _ _ (.inl rfl) ?_
  clear hK K
  refine wpHJ_done (by kernel_rfl) ?_ _
  simp only [onlyN, Exit.then]
  clear hFa
  have HX6 := hid (HX5.out.step HBO.out)
  have HY6 := hid (HY5.out.step HBO.out)
  have HT6 := hid (HT5.out.below HBO.out)
  have HB6 := hid (HB5.out.trans (HBO.out.mono HB5.out.size))
  clear HX5 HY5 HT5 HBO HBA HBB HBd
  have HT5 := HT6
  go_wp2_with fail
  have hS : (Sx (w.heap.size + 1) y r1 e1 r2 e2) w6.drew := (HY6.out.step (below_self _)).sx
  have hFa : ∀ f, Fence.wide.fn f := fun _ => trivial
  refine (wpIn_wide (n := 9)).1 ?_
  refine wpIn_onlyN ?_
  refine wpIn_region_HJ (Sx (w.heap.size + 1) y r1 e1 r2 e2) 10 (by kernel_rfl) ?_
  simp only [List.size_toArray, List.length_cons, List.length_nil, Nat.reduceAdd]
  refine wpHJ_take (v := ?vc0) 0 hFa rfl (by kernel_rfl) (fun _ _ _ h => h.elim) (Or.inl ⟨by rfl, ?yc0⟩) hS ?rc0
  case yc0 => (intro w' hS'; obtain ⟨s0, s1, s2, s3, s4, s5, s6, s7, s8, s9⟩ := hS'; go_simp; try rfl)
  simp only [Act.put, List.getElem_toArray, List.getElem_cons_succ, List.getElem_cons_zero, List.setIfInBounds_toArray, List.set_cons_zero, List.set_cons_succ]
  refine wpHJ_pure (v := ?vc1) 1 hFa rfl (by kernel_rfl) (fun _ _ _ h => h.elim) (Or.inl ⟨by rfl, ?yc1⟩) (.inr hS) ?rc1
  case yc1 => (intro w' _; go_simp; try rfl)
  simp only [Act.put, List.getElem_toArray, List.getElem_cons_succ, List.getElem_cons_zero, List.setIfInBounds_toArray, List.set_cons_zero, List.set_cons_succ]
  refine wpHJ_pure (v := ?vc3) 3 hFa rfl (by kernel_rfl) (fun _ _ _ h => h.elim) (Or.inl ⟨by rfl, ?yc3⟩) (.inr hS) ?rc3
  case yc3 => (intro w' _; go_simp; try rfl)
  simp only [Act.put, List.getElem_toArray, List.getElem_cons_succ, List.getElem_cons_zero, List.setIfInBounds_toArray, List.set_cons_zero, List.set_cons_succ]
  clear hS
  have hbd := below_self w6
  have hvd := HY6.out.step hbd
  have htd := HT5.out.below hbd
  generalize w6.drew = wd4 at *
  have HY6d := hid hvd; have HBd := hid hbd; have HTd := hid htd
  clear hvd hbd htd
  refine wpHJ_only 2 (by kernel_rfl) rfl ?_
  intro K hK
  go_simp
  (with_reducible refine (callsIn_wide.2 (HNM.out wd4)).mono ?_)
  rintro e wd4a ⟨hba, pm, cm, rfl, hsm⟩
  have HBA := hid hba; have HSM := hid hsm
  clear hba hsm
  refine hK _ _ (.inr (.inr (HY6d.out.step HBA.out).sx)) ?_
  clear hK K
  refine wpHJ_only 4 (by kernel_rfl) rfl ?_
  intro K hK
  go_simp
  (with_reducible refine (callsIn_wide.2 (HNC.out wd4a)).mono ?_)
  rintro e wd4b ⟨hbb, pn, cn, rfl, hsn⟩
  have HBB := hid hbb; have HSN := hid hsn
  clear hbb hsn
  refine hK _ _ (.inr (.inr ((HY6d.out.step HBA.out).step HBB.out).sx)) ?_
  clear hK K
  refine wpHJ_only 5 (by kernel_rfl) rfl ?_
  intro K hK
  go_simp
  (with_reducible refine (callsIn_wide.2 (HLY.out _ _ _ _ _ _ _ ((HY6d.out.step HBA.out).step HBB.out) (HSM.out.keep fun i hi => ⟨Nat.lt_of_lt_of_le hi HBB.out.size, HBB.out.block i hi⟩) HSN.out ((HTd.out.below HBA.out).below HBB.out))).mono ?_)
  rintro e w7 ⟨hbc, pl2, cl2, rfl, hsl⟩
  have hbo := HBd.out.trans ((HBA.out.trans (HBB.out.mono HBA.out.size)).trans (hbc.mono (Nat.le_trans HBA.out.size HBB.out.size)) |>.mono HBd.out.size)
  have HBO := hid hbo; have HSL2 := hid hsl
  clear hbc hsl hbo
  refine hK _ _ (.inr (.inr (HY6.out.step HBO.out).sx)) ?_
  clear hK K
  refine wpHJ_pure (v := ?vc6) 6 hFa rfl (by kernel_rfl) (fun _ _ _ h => h.elim) (Or.inl ⟨by rfl, ?yc6⟩) (.inr (HY6.out.step HBO.out).sx) ?rc6
  case yc6 => (intro w' _; go_simp; try rfl)
  simp only [Act.put, List.getElem_toArray, List.getElem_cons_succ, List.getElem_cons_zero, List.setIfInBounds_toArray, List.set_cons_zero, List.set_cons_succ]
  refine wpHJ_pure (v := ?vc7) 7 hFa rfl (by kernel_rfl) (fun _ _ _ h => h.elim) (Or.inl ⟨by rfl, ?yc7⟩) (.inr (HY6.out.step HBO.out).sx) ?rc7
  case yc7 => (intro w' _; go_simp; try rfl)
  simp only [Act.put, List.getElem_toArray, List.getElem_cons_succ, List.getElem_cons_zero, List.setIfInBounds_toArray, List.set_cons_zero, List.set_cons_succ]
  refine wpHJ_pure (v := ?vc8) 8 hFa rfl (by kernel_rfl) (fun _ _ _ h => h.elim) (Or.inl ⟨by rfl, ?yc8⟩) (.inr (HY6.out.step HBO.out).sx) ?rc8
  case yc8 => (intro w' _; go_simp; try rfl)
  simp only [Act.put, List.getElem_toArray, List.getElem_cons_succ, List.getElem_cons_zero, List.setIfInBounds_toArray, List.set_cons_zero, List.set_cons_succ]
  refine wpHJ_pure (v := ?vc9) 9 hFa rfl (by kernel_rfl) (fun _ _ _ h => h.elim) (Or.inl ⟨by rfl, ?yc9⟩) (.inr (HY6.out.step HBO.out).sx) ?rc9
  case yc9 => (intro w' _; go_simp; try rfl)
  simp only [Act.put, List.getElem_toArray, List.getElem_cons_succ, List.getElem_cons_zero, List.setIfInBounds_toArray, List.set_cons_zero, List.set_cons_succ]
  refine wpHJ_only 10 (by kernel_rfl) rfl ?_
  intro K hK
  go_simp
  refine hK _ _ (.inl rfl) ?_
  clear hK K
  refine wpHJ_done (by kernel_rfl) ?_ _
  simp only [onlyN, Exit.then]
  clear hFa
  have HX7 := hid (HX6.out.step HBO.out)
  have HY7 := hid (HY6.out.step HBO.out)
  have HT7 := hid (HT6.out.below HBO.out)
  have HB7 := hid (HB6.out.trans (HBO.out.mono HB6.out.size))
  have HS1 := hid (show Strs (fun i => i < w7.heap.size) w7 (.slice pl1 l1.length cl1) l1 from HSL1.out.keep fun i hi => ⟨Nat.lt_of_lt_of_le hi HBO.out.size, HBO.out.block i hi⟩)
  clear HBO HBA HBB HBd
  have HES := hid (fun W (hW : Below w7.heap.size w7 W) => show Calls Tryd.prog 17 #[.slice pl1 l1.length cl1, .slice pl2 l2.length cl2] W fun e w' => e = .returned (.bool r) ∧ ∃ n, W.drewN n = w' from by
    rw [← HR.out]; exact eqstrings_any l1 l2 _ _ (fun i => i < W.heap.size) (fun i => i < W.heap.size) W (HS1.out.keep fun i hi => ⟨Nat.lt_of_lt_of_le hi hW.size, hW.block i hi⟩) (HSL2.out.keep fun i hi => ⟨Nat.lt_of_lt_of_le hi hW.size, hW.block i hi⟩))
  have HEV := hid (fun W (h : VB W (w.heap.size) x p1 c1 p2 c2) (h2 : VB W (w.heap.size + 1) y r1 e1 r2 e2) => show Calls Tryd.prog 18 #[.agg #[.int .u8 (x.kind : Int), .int .u8 (x.reason : Int), .int .i64 x.level, .slice p1 x.A.length c1, .slice p2 x.B.length c2, .bool x.imp, .bool x.pol, .int .i64 x.line, .int .i64 x.col, .int .i64 x.err], .agg #[.int .u8 (y.kind : Int), .int .u8 (y.reason : Int), .int .i64 y.level, .slice r1 y.A.length e1, .slice r2 y.B.length e2, .bool y.imp, .bool y.pol, .int .i64 y.line, .int .i64 y.col, .int .i64 y.err]] W fun e w' => e = .returned (.bool r) ∧ Below W.heap.size W w' from by
    rw [← HR2.out]; exact eqvd_box h h2)
  have hS : (fun W : World => Sx (w.heap.size) x p1 c1 p2 c2 W ∧ Sx (w.heap.size + 1) y r1 e1 r2 e2 W) w7.drew := ⟨(HX7.out.step (below_self _)).sx, (HY7.out.step (below_self _)).sx⟩
  go_wp2_with fail
  have hFa : ∀ f, Fence.wide.fn f := fun _ => trivial
  refine (wpIn_wide (n := 9)).1 ?_
  refine wpIn_onlyN ?_
  refine wpIn_region_HJ (fun W : World => Sx (w.heap.size) x p1 c1 p2 c2 W ∧ Sx (w.heap.size + 1) y r1 e1 r2 e2 W) 18 (by kernel_rfl) ?_
  simp only [List.size_toArray, List.length_cons, List.length_nil, Nat.reduceAdd]
  refine wpHJ_pure (v := ?vd0) 0 hFa rfl (by kernel_rfl) (fun _ _ _ h => h.elim) (Or.inl ⟨by rfl, ?yd0⟩) (.inr hS) ?rd0
  case yd0 => (intro w' _; go_simp; try rfl)
  simp only [Act.put, List.getElem_toArray, List.getElem_cons_succ, List.getElem_cons_zero, List.setIfInBounds_toArray, List.set_cons_zero, List.set_cons_succ]
  refine wpHJ_pure (v := ?vd1) 1 hFa rfl (by kernel_rfl) (fun _ _ _ h => h.elim) (Or.inl ⟨by rfl, ?yd1⟩) (.inr hS) ?rd1
  case yd1 => (intro w' _; go_simp; try rfl)
  simp only [Act.put, List.getElem_toArray, List.getElem_cons_succ, List.getElem_cons_zero, List.setIfInBounds_toArray, List.set_cons_zero, List.set_cons_succ]
  refine wpHJ_pure (v := ?vd2) 2 hFa rfl (by kernel_rfl) (fun _ _ _ h => h.elim) (Or.inl ⟨by rfl, ?yd2⟩) (.inr hS) ?rd2
  case yd2 => (intro w' _; go_simp; try rfl)
  simp only [Act.put, List.getElem_toArray, List.getElem_cons_succ, List.getElem_cons_zero, List.setIfInBounds_toArray, List.set_cons_zero, List.set_cons_succ]
  refine wpHJ_pure (v := ?vd3) 3 hFa rfl (by kernel_rfl) (fun _ _ _ h => h.elim) (Or.inl ⟨by simp [Region.wanted, yielded], ?yd3⟩) (.inr hS) ?rd3
  case yd3 => (intro w' _; go_simp; try rfl)
  simp only [Act.put, List.getElem_toArray, List.getElem_cons_succ, List.getElem_cons_zero, List.setIfInBounds_toArray, List.set_cons_zero, List.set_cons_succ]
  refine wpHJ_pure (v := ?vd4) 4 hFa rfl (by kernel_rfl) (fun _ _ _ h => h.elim) (Or.inl ⟨by simp [Region.wanted, yielded], ?yd4⟩) (.inr hS) ?rd4
  case yd4 => (intro w' _; go_simp; try rfl)
  simp only [Act.put, List.getElem_toArray, List.getElem_cons_succ, List.getElem_cons_zero, List.setIfInBounds_toArray, List.set_cons_zero, List.set_cons_succ]
  refine wpHJ_pure (v := ?vd5) 5 hFa rfl (by kernel_rfl) (fun _ _ _ h => h.elim) (Or.inl ⟨by rfl, ?yd5⟩) (.inr hS) ?rd5
  case yd5 => (intro w' _; go_simp; try rfl)
  simp only [Act.put, List.getElem_toArray, List.getElem_cons_succ, List.getElem_cons_zero, List.setIfInBounds_toArray, List.set_cons_zero, List.set_cons_succ]
  refine wpHJ_pure (v := ?vd6) 6 hFa rfl (by kernel_rfl) (fun _ _ _ h => h.elim) (Or.inl ⟨by rfl, ?yd6⟩) (.inr hS) ?rd6
  case yd6 => (intro w' _; go_simp; try rfl)
  simp only [Act.put, List.getElem_toArray, List.getElem_cons_succ, List.getElem_cons_zero, List.setIfInBounds_toArray, List.set_cons_zero, List.set_cons_succ]
  refine wpHJ_pure (v := ?vd7) 7 hFa rfl (by kernel_rfl) (fun _ _ _ h => h.elim) (Or.inl ⟨by simp [Region.wanted, yielded], ?yd7⟩) (.inr hS) ?rd7
  case yd7 => (intro w' _; go_simp; try rfl)
  simp only [Act.put, List.getElem_toArray, List.getElem_cons_succ, List.getElem_cons_zero, List.setIfInBounds_toArray, List.set_cons_zero, List.set_cons_succ]
  refine wpHJ_pure (v := ?vd8) 8 hFa rfl (by kernel_rfl) (fun _ _ _ h => h.elim) (Or.inl ⟨by simp [Region.wanted, yielded], ?yd8⟩) (.inr hS) ?rd8
  case yd8 => (intro w' _; go_simp; try rfl)
  simp only [Act.put, List.getElem_toArray, List.getElem_cons_succ, List.getElem_cons_zero, List.setIfInBounds_toArray, List.set_cons_zero, List.set_cons_succ]
  refine wpHJ_take (v := ?vd10) 10 hFa rfl (by kernel_rfl) (fun _ _ _ h => h.elim) (Or.inl ⟨by simp [Region.wanted, yielded], ?yd10⟩) hS ?rd10
  case yd10 => (intro w' hS'; obtain ⟨⟨s0, s1, s2, s3, s4, s5, s6, s7, s8, s9⟩, ⟨t0, t1, t2, t3, t4, t5, t6, t7, t8, t9⟩⟩ := hS'; go_simp; try rfl)
  simp only [Act.put, List.getElem_toArray, List.getElem_cons_succ, List.getElem_cons_zero, List.setIfInBounds_toArray, List.set_cons_zero, List.set_cons_succ]
  refine wpHJ_take (v := ?vd11) 11 hFa rfl (by kernel_rfl) (fun _ _ _ h => h.elim) (Or.inl ⟨by simp [Region.wanted, yielded], ?yd11⟩) hS ?rd11
  case yd11 => (intro w' hS'; obtain ⟨⟨s0, s1, s2, s3, s4, s5, s6, s7, s8, s9⟩, ⟨t0, t1, t2, t3, t4, t5, t6, t7, t8, t9⟩⟩ := hS'; go_simp; try rfl)
  simp only [Act.put, List.getElem_toArray, List.getElem_cons_succ, List.getElem_cons_zero, List.setIfInBounds_toArray, List.set_cons_zero, List.set_cons_succ]
  clear hS
  have hbd := below_self w7
  have hxd := HX7.out.step hbd
  have hyd := HY7.out.step hbd
  have htd := HT7.out.below hbd
  generalize w7.drew = wd5 at *
  have HX7d := hid hxd; have HY7d := hid hyd; have HBd5 := hid hbd; have HT7d := hid htd
  clear hxd hyd hbd htd
  refine wpHJ_only 9 (by kernel_rfl) rfl ?_
  intro K hK
  rw [if_pos (by simp [Region.wanted, yielded])]
  go_simp
  (with_reducible refine (callsIn_wide.2 (HES.out wd5 HBd5.out)).mono ?_)
  rintro e w8 ⟨rfl, n8, hw8⟩
  have HB8 := hid (show Below wd5.heap.size wd5 w8 from by rw [← hw8]; exact ⟨rfl, rfl, rfl, Nat.le_refl _, fun _ _ => rfl⟩)
  clear hw8
  refine hK _ _ (.inr (.inr ⟨(HX7d.out.step HB8.out).sx, (HY7d.out.step HB8.out).sx⟩)) ?_
  clear hK K
  refine wpHJ_only 12 (by kernel_rfl) rfl ?_
  intro K hK
  rw [if_pos (by simp [Region.wanted, yielded])]
  go_simp
  (with_reducible refine (callsIn_wide.2 (HEV.out w8 (HX7d.out.step HB8.out) (HY7d.out.step HB8.out))).mono ?_)
  rintro e w9 ⟨rfl, hb9⟩
  have HB9 := hid hb9
  clear hb9
  refine hK _ _ (.inr (.inr ⟨((HX7d.out.step HB8.out).step HB9.out).sx, ((HY7d.out.step HB8.out).step HB9.out).sx⟩)) ?_
  clear hK K
  refine wpHJ_pure (v := ?vd13) 13 hFa rfl (by kernel_rfl) (fun _ _ _ h => h.elim) (Or.inl ⟨by simp [Region.wanted, yielded], ?yd13⟩) (.inr ⟨((HX7d.out.step HB8.out).step HB9.out).sx, ((HY7d.out.step HB8.out).step HB9.out).sx⟩) ?rd13
  case yd13 => (intro w' _; go_simp; try rfl)
  simp only [Act.put, List.getElem_toArray, List.getElem_cons_succ, List.getElem_cons_zero, List.setIfInBounds_toArray, List.set_cons_zero, List.set_cons_succ]
  refine wpHJ_pure (v := ?vd14) 14 hFa rfl (by kernel_rfl) (fun _ _ _ h => h.elim) (Or.inl ⟨by rfl, ?yd14⟩) (.inr ⟨((HX7d.out.step HB8.out).step HB9.out).sx, ((HY7d.out.step HB8.out).step HB9.out).sx⟩) ?rd14
  case yd14 => (intro w' _; go_simp; try rfl)
  simp only [Act.put, List.getElem_toArray, List.getElem_cons_succ, List.getElem_cons_zero, List.setIfInBounds_toArray, List.set_cons_zero, List.set_cons_succ]
  refine wpHJ_pure (v := ?vd15) 15 hFa rfl (by kernel_rfl) (fun _ _ _ h => h.elim) (Or.inl ⟨by rfl, ?yd15⟩) (.inr ⟨((HX7d.out.step HB8.out).step HB9.out).sx, ((HY7d.out.step HB8.out).step HB9.out).sx⟩) ?rd15
  case yd15 => (intro w' _; go_simp; try rfl)
  simp only [Act.put, List.getElem_toArray, List.getElem_cons_succ, List.getElem_cons_zero, List.setIfInBounds_toArray, List.set_cons_zero, List.set_cons_succ]
  refine wpHJ_only 16 (by kernel_rfl) rfl ?_
  intro K hK
  rw [if_pos (by simp [Region.wanted, yielded])]
  try simp only [beq_self_eq_true]
  go_simp
  (with_reducible refine (callsIn_wide.2 (awake_any w9 ((HT7d.out.below HB8.out).below HB9.out))).mono ?_)
  rintro e w10 ⟨rfl, hb10⟩
  have HB10 := hid hb10
  clear hb10
  refine hK _ _ (.inr (.inr ⟨(((HX7d.out.step HB8.out).step HB9.out).step HB10.out).sx, (((HY7d.out.step HB8.out).step HB9.out).step HB10.out).sx⟩)) ?_
  clear hK K
  refine wpHJ_pure (v := ?vd17) 17 hFa rfl (by kernel_rfl) (fun _ _ _ h => h.elim) (Or.inl ⟨by rfl, ?yd17⟩) (.inr ⟨(((HX7d.out.step HB8.out).step HB9.out).step HB10.out).sx, (((HY7d.out.step HB8.out).step HB9.out).step HB10.out).sx⟩) ?rd17
  case yd17 => (intro w' _; go_simp; try rfl)
  simp only [Act.put, List.getElem_toArray, List.getElem_cons_succ, List.getElem_cons_zero, List.setIfInBounds_toArray, List.set_cons_zero, List.set_cons_succ]
  refine wpHJ_only 18 (by kernel_rfl) rfl ?_
  intro K hK
  go_simp
  refine hK _ _ (.inl rfl) ?_
  clear hK K
  refine wpHJ_done (by kernel_rfl) ?_ _
  simp only [onlyN, Exit.then]
  clear hFa
  go_wp2
  go_ret
  exact ⟨rfl, HB7.out.trans ((HBd5.out.trans ((HB8.out.trans ((HB9.out.trans (HB10.out.mono HB9.out.size)).mono HB8.out.size)).mono HBd5.out.size)).mono HB7.out.size)⟩

theorem tells_walk (v : Vd) (pA : Option Addr) (cA : Nat) (pB : Option Addr) (cB : Nat) (u : Vd) (qA : Option Addr) (dA : Nat) (qB : Option Addr) (dB : Nat) (lv ch : Int) (w : World) (hv : VdOk v) (hvA : NLL (fun i => i < w.heap.size) w (.slice pA v.A.length cA) v.A) (hvB : NLL (fun i => i < w.heap.size) w (.slice pB v.B.length cB) v.B) (lvA : ∀ y ∈ v.A, y.length ≤ 17592186044415) (lvB : ∀ y ∈ v.B, y.length ≤ 17592186044415)
    (hu : VdOk u) (huA : NLL (fun i => i < w.heap.size) w (.slice qA u.A.length dA) u.A) (huB : NLL (fun i => i < w.heap.size) w (.slice qB u.B.length dB) u.B) (luA : ∀ y ∈ u.A, y.length ≤ 17592186044415) (luB : ∀ y ∈ u.B, y.length ≤ 17592186044415) (hlv : -9223372036854775808 ≤ lv ∧ lv ≤ 9223372036854775807) (hch : -9223372036854775808 ≤ ch ∧ ch ≤ 9223372036854775807) (ht : Tabs w) :
    Calls Tryd.prog 5 #[.agg #[.int .u8 (v.kind : Int), .int .u8 (v.reason : Int), .int .i64 v.level, .slice pA v.A.length cA, .slice pB v.B.length cB, .bool v.imp, .bool v.pol, .int .i64 v.line, .int .i64 v.col, .int .i64 v.err], .agg #[.int .u8 (u.kind : Int), .int .u8 (u.reason : Int), .int .i64 u.level, .slice qA u.A.length dA, .slice qB u.B.length dB, .bool u.imp, .bool u.pol, .int .i64 u.line, .int .i64 u.col, .int .i64 u.err], .int .i64 lv, .int .i64 ch] w fun e w' => e = .returned (.bool true) ∧ Below w.heap.size w w' :=
  tells_any v u pA pB qA qB cA cB dA dB lv ch w hv hu hvA hvB huA huB lvA lvB luA luB hlv hch ht

end Go.Proofs.YtehjfmbnebeioaaDoor
