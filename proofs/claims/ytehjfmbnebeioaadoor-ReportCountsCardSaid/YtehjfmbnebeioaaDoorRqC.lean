/-
  The walk of ReportCounts.
-/
import Derived.Test.YtehjfmbnebeioaaDoorRqQ
import Derived.Test.YtehjfmbnebeioaaDoorRqO
namespace Go.Proofs.YtehjfmbnebeioaaDoor
set_option linter.unusedSimpArgs false
set_option linter.unusedVariables false
open Go.RowKit Go.Shelf
attribute [local go_sem] Oper.semAt_some

set_option maxRecDepth 100000 in
set_option maxHeartbeats 4000000 in
theorem counts_0 (v : Vd) (pA pB : Option Addr) (cA cB : Nat) (lv ch : Int) (mx : Int) (w : World) (m n : Nat) (x : Vd) (hx : madeV v m n = x) (hk : x.kind = 0) (hv : VdOk v) (hvA : NLL (fun i => i < w.heap.size) w (.slice pA v.A.length cA) v.A) (hvB : NLL (fun i => i < w.heap.size) w (.slice pB v.B.length cB) v.B)
    (lvA : ∀ y ∈ v.A, y.length ≤ 17592186044415) (lvB : ∀ y ∈ v.B, y.length ≤ 17592186044415) (q : Nat) (hq : lv % 5 = (q : Int)) (hn : ch % 5 = (n : Int)) (hm : m = 1 + q) (hlv : -9223372036854775808 ≤ lv ∧ lv ≤ 9223372036854775807) (hch : -9223372036854775808 ≤ ch ∧ ch ≤ 9223372036854775807) (ht : Tabs w) (hmx : w.cell? ⟨2, 0, none⟩ = some (.int .i64 mx)) :
    Calls Tryd.prog 8 #[.agg #[.int .u8 (v.kind : Int), .int .u8 (v.reason : Int), .int .i64 v.level, .slice pA v.A.length cA, .slice pB v.B.length cB, .bool v.imp, .bool v.pol, .int .i64 v.line, .int .i64 v.col, .int .i64 v.err], .int .i64 lv, .int .i64 ch] w fun e w' => e = .returned (.bool true) ∧ Below w.heap.size w w' := by
  obtain ⟨W0, hW0⟩ : ∃ W, w.alloc (.cells #[.int .u8 (v.kind : Int), .int .u8 (v.reason : Int), .int .i64 v.level, .slice pA v.A.length cA, .slice pB v.B.length cB, .bool v.imp, .bool v.pol, .int .i64 v.line, .int .i64 v.col, .int .i64 v.err] 35) = W := ⟨_, rfl⟩
  have hb0 : Below w.heap.size w W0 := by rw [← hW0]; exact (Below.refl _ _).alloc (Nat.le_refl _) _
  have hz0 : W0.heap.size = w.heap.size + 1 := by rw [← hW0, World.size_alloc]
  have hc0 : W0.heap[w.heap.size]? = some (.cells #[.int .u8 (v.kind : Int), .int .u8 (v.reason : Int), .int .i64 v.level, .slice pA v.A.length cA, .slice pB v.B.length cB, .bool v.imp, .bool v.pol, .int .i64 v.line, .int .i64 v.col, .int .i64 v.err] 35 (0, 0)) := by rw [← hW0, heap_al, if_pos rfl]
  have up : ∀ i, i < w.heap.size → i < W0.heap.size ∧ W0.heap[i]? = w.heap[i]? := fun i hi => ⟨by omega, hb0.block i hi⟩
  have hv0 : VB W0 (w.heap.size) v pA cA pB cB := ⟨hc0, hvA.keep up, hvB.keep up⟩
  have HQ := hid (kmod_lit lv 5 q hlv (by omega) hq)
  have HN := hid (kmod_lit ch 5 n hch (by omega) hn)
  have hq4 : q ≤ 4 := by omega
  have hn4 : n ≤ 4 := by omega
  have em : 1 + (q : Int) = (m : Int) := by omega
  have hm1 : 1 ≤ m ∧ m ≤ 5 := by omega
  have hxo : VdOk x := by rw [← hx]; exact made_ok v m n hv (by omega)
  have hxm : Mv m n x := by rw [← hx]; exact made_mv v m n (by omega)
  have hrw : (∀ l ∈ x.A, l.length ≤ 20) ∧ ∀ l ∈ x.B, l.length ≤ 20 := by rw [← hx]; exact made_rows v m n
  obtain ⟨g1, g2, ⟨z, r, g3, g4, g5⟩, g6⟩ := counts hxm hxo hrw.1 hrw.2 (by omega) (by omega)
  obtain ⟨l1, hl1⟩ : ∃ l, (vlinesR x (namesL m) (namesL n)).1 = l := ⟨_, rfl⟩
  rw [hl1] at g2 g3 g6
  have HWD0 := hid (fun W (hW : Tabs W) => word_any x.kind x.reason W hxo.kind hxo.reason hW)
  unfold WordPost at HWD0
  rw [g1] at HWD0
  generalize (wordR x.kind x.reason).1 = wd at *
  have HWD := HWD0
  have g5' : decide (z = wd) = true := by rw [g5, hk]; decide
  have hN : l1.length = 1 := by rw [g2, hk]; simp
  have hse : ((⟨z.toArray⟩ : ByteArray).toList == (⟨wd.toArray⟩ : ByteArray).toList) = true := by rw [str_eqL, g5']
  have hse2 : (z == wd) = true := by rw [← g5']; by_cases h : z = wd <;> simp [h]
  have HHP := hid (fun W => show Calls Tryd.prog 21 #[.string ⟨z.toArray⟩, .string ⟨wd.toArray⟩] W fun e w' => e = .returned (.bool true) ∧ w' = W from by
    have h := Tryd.strings_HasPrefix ⟨z.toArray⟩ ⟨wd.toArray⟩ W
    have e : Lib.hasPrefix (⟨z.toArray⟩ : ByteArray).data.toList (⟨wd.toArray⟩ : ByteArray).data.toList = true := g4
    rw [e] at h; exact h)
  have HL6 := hid g6; have HL3 := hid g3
  have HMV := hid (made_boxV m n hv0 hv (by omega) (by omega) lvA lvB x hx)
  have HNM := hid (fun W => names_box m W (by omega))
  have HNC := hid (fun W => names_box n W (by omega))
  have HLX := hid (fun (W : World) (p1 : Option Addr) (c1 : Nat) (p2 : Option Addr) (c2 : Nat) (vl vc : Value) (h : VB W (w.heap.size) x p1 c1 p2 c2) => lines_boxV (vl := vl) (vc := vc) hxo hxm (by omega) l1 hl1 h)
  have k0 : ((x.kind : Int) == 0) = true := by rw [hk]; decide
  have k1 : ((x.kind : Int) == 1) = false := by rw [hk]; decide
  have k2 : ((x.kind : Int) == 2) = false := by rw [hk]; decide
  have HV0 := hid hv0; have HB0 := hid hb0; have HZ := hid hz0; have HWW := hid hW0; have HT := hid ht; have HMX := hid hmx; have HN1 := hid hN
  clear HWD0 hvA hvB hb0 hz0 hc0 hW0 up lvA lvB hv hxo hxm hrw hl1 hv0 hx hq hn ht hm hmx hk g1 g2 g3 g4 g5 g6 g5' hN
  go_enter Tryd.func8, Tryd.ntmps8
  go_wp2_with (go_at_call 13; (first | with_reducible refine (HQ.out _).mono ?_ | with_reducible refine (HN.out _).mono ?_); rintro e w1 ⟨rfl, rfl⟩)
  rw [HWW.out]
  refine HMV.out.mono ?_
  rintro e w2 ⟨hb2, p1, c1, p2, c2, rfl, hx1, hx2⟩
  have hv2 := HV0.out.step hb2
  have HV2 := hid hv2; have HX1 := hid hx1; have HX2 := hid hx2; have HB2 := hid (HB0.out.trans (hb2.mono HB0.out.size))
  have x0 : w2.cell? ⟨w.heap.size, 0, none⟩ = some (.int .u8 (v.kind : Int)) := (by rw [cell_of_row w2 _ 0 _ _ _ hv2.c]; rfl)
  have f0 : w2.frozen? ⟨w.heap.size, 0, none⟩ = false := frozen_of_row w2 _ 0 _ _ hv2.c
  have x1 : w2.cell? ⟨w.heap.size, 1, none⟩ = some (.int .u8 (v.reason : Int)) := (by rw [cell_of_row w2 _ 1 _ _ _ hv2.c]; rfl)
  have f1 : w2.frozen? ⟨w.heap.size, 1, none⟩ = false := frozen_of_row w2 _ 1 _ _ hv2.c
  have x2 : w2.cell? ⟨w.heap.size, 2, none⟩ = some (.int .i64 v.level) := (by rw [cell_of_row w2 _ 2 _ _ _ hv2.c]; rfl)
  have f2 : w2.frozen? ⟨w.heap.size, 2, none⟩ = false := frozen_of_row w2 _ 2 _ _ hv2.c
  have x3 : w2.cell? ⟨w.heap.size, 3, none⟩ = some (.slice pA v.A.length cA) := (by rw [cell_of_row w2 _ 3 _ _ _ hv2.c]; rfl)
  have f3 : w2.frozen? ⟨w.heap.size, 3, none⟩ = false := frozen_of_row w2 _ 3 _ _ hv2.c
  have x4 : w2.cell? ⟨w.heap.size, 4, none⟩ = some (.slice pB v.B.length cB) := (by rw [cell_of_row w2 _ 4 _ _ _ hv2.c]; rfl)
  have f4 : w2.frozen? ⟨w.heap.size, 4, none⟩ = false := frozen_of_row w2 _ 4 _ _ hv2.c
  have x5 : w2.cell? ⟨w.heap.size, 5, none⟩ = some (.bool v.imp) := (by rw [cell_of_row w2 _ 5 _ _ _ hv2.c]; rfl)
  have f5 : w2.frozen? ⟨w.heap.size, 5, none⟩ = false := frozen_of_row w2 _ 5 _ _ hv2.c
  have x6 : w2.cell? ⟨w.heap.size, 6, none⟩ = some (.bool v.pol) := (by rw [cell_of_row w2 _ 6 _ _ _ hv2.c]; rfl)
  have f6 : w2.frozen? ⟨w.heap.size, 6, none⟩ = false := frozen_of_row w2 _ 6 _ _ hv2.c
  have x7 : w2.cell? ⟨w.heap.size, 7, none⟩ = some (.int .i64 v.line) := (by rw [cell_of_row w2 _ 7 _ _ _ hv2.c]; rfl)
  have f7 : w2.frozen? ⟨w.heap.size, 7, none⟩ = false := frozen_of_row w2 _ 7 _ _ hv2.c
  have x8 : w2.cell? ⟨w.heap.size, 8, none⟩ = some (.int .i64 v.col) := (by rw [cell_of_row w2 _ 8 _ _ _ hv2.c]; rfl)
  have f8 : w2.frozen? ⟨w.heap.size, 8, none⟩ = false := frozen_of_row w2 _ 8 _ _ hv2.c
  have x9 : w2.cell? ⟨w.heap.size, 9, none⟩ = some (.int .i64 v.err) := (by rw [cell_of_row w2 _ 9 _ _ _ hv2.c]; rfl)
  have f9 : w2.frozen? ⟨w.heap.size, 9, none⟩ = false := frozen_of_row w2 _ 9 _ _ hv2.c
  clear hb2 hx1 hx2 hv2
  go_wp2_with (obtain ⟨w5, hw5⟩ : ∃ W, ((((((((((w2).setCell ⟨w.heap.size, 0, none⟩ (.int .u8 (x.kind : Int))).setCell ⟨w.heap.size, 1, none⟩ (.int .u8 (x.reason : Int))).setCell ⟨w.heap.size, 2, none⟩ (.int .i64 x.level)).setCell ⟨w.heap.size, 3, none⟩ (.slice p1 x.A.length c1)).setCell ⟨w.heap.size, 4, none⟩ (.slice p2 x.B.length c2)).setCell ⟨w.heap.size, 5, none⟩ (.bool x.imp)).setCell ⟨w.heap.size, 6, none⟩ (.bool x.pol)).setCell ⟨w.heap.size, 7, none⟩ (.int .i64 x.line)).setCell ⟨w.heap.size, 8, none⟩ (.int .i64 x.col)).setCell ⟨w.heap.size, 9, none⟩ (.int .i64 x.err) = W := ⟨_, rfl⟩; rw [hw5]; obtain ⟨hx5, hk5, hs5, hb5⟩ := HV2.out.of_set (x := x) (p1 := p1) (c1 := c1) (p2 := p2) (c2 := c2) HX1.out HX2.out (fun i hi => ⟨by have := HZ.out; omega, hi.2⟩) (fun i hi => ⟨by have := HZ.out; omega, hi.2⟩) hw5; have HX5 := hid hx5; have HB5 := hid (hb5 HB2.out (Nat.le_refl _)); have HT5 := hid (HT.out.below HB5.out); clear x0 f0 x1 f1 x2 f2 x3 f3 x4 f4 x5 f5 x6 f6 x7 f7 x8 f8 x9 f9 hw5 hx5 hk5 hs5 hb5)
  have hS : (Sx (w.heap.size) x p1 c1 p2 c2) w5.drew := (HX5.out.step (below_self _)).sx
  have hFa : ∀ f, Fence.wide.fn f := fun _ => trivial
  refine (wpIn_wide (n := 9)).1 ?_
  refine wpIn_onlyN ?_
  refine wpIn_region_HJ (Sx (w.heap.size) x p1 c1 p2 c2) 10 (by kernel_rfl) ?_
  simp only [List.size_toArray, List.length_cons, List.length_nil, Nat.reduceAdd]
  refine wpHJ_take (v := ?vb0) 0 hFa rfl (by kernel_rfl) (fun _ _ _ h => h.elim) (Or.inl ⟨by rfl, ?yb0⟩) hS ?rb0
  case yb0 => (intro w' hS'; obtain ⟨s0, s1, s2, s3, s4, s5, s6, s7, s8, s9⟩ := hS'; go_simp; try rfl)
  simp only [Act.put, List.getElem_toArray, List.getElem_cons_succ, List.getElem_cons_zero, List.setIfInBounds_toArray, List.set_cons_zero, List.set_cons_succ]
  refine wpHJ_pure (v := ?vb1) 1 hFa rfl (by kernel_rfl) (fun _ _ _ h => h.elim) (Or.inl ⟨by rfl, ?yb1⟩) (.inr hS) ?rb1
  case yb1 => (intro w' _; go_simp; try rfl)
  simp only [Act.put, List.getElem_toArray, List.getElem_cons_succ, List.getElem_cons_zero, List.setIfInBounds_toArray, List.set_cons_zero, List.set_cons_succ]
  refine wpHJ_pure (v := ?vb3) 3 hFa rfl (by kernel_rfl) (fun _ _ _ h => h.elim) (Or.inl ⟨by rfl, ?yb3⟩) (.inr hS) ?rb3
  case yb3 => (intro w' _; go_simp; try rfl)
  simp only [Act.put, List.getElem_toArray, List.getElem_cons_succ, List.getElem_cons_zero, List.setIfInBounds_toArray, List.set_cons_zero, List.set_cons_succ]
  clear hS
  have hbd := below_self w5
  have hvd := HX5.out.step hbd
  have htd := HT5.out.below hbd
  generalize w5.drew = wd3 at *
  have HX5d := hid hvd; have HBd := hid hbd; have HTd := hid htd
  clear hvd hbd htd
  refine wpHJ_only 2 (by kernel_rfl) rfl ?_
  intro K hK
  go_simp
  (with_reducible refine (callsIn_wide.2 (HNM.out wd3)).mono ?_)
  rintro e wd3a ⟨hba, pm, cm, rfl, hsm⟩
  have HBA := hid hba; have HSM := hid hsm
  clear hba hsm
  refine hK _ _ (.inr (.inr (HX5d.out.step HBA.out).sx)) ?_
  clear hK K
  refine wpHJ_only 4 (by kernel_rfl) rfl ?_
  intro K hK
  go_simp
  (with_reducible refine (callsIn_wide.2 (HNC.out wd3a)).mono ?_)
  rintro e wd3b ⟨hbb, pn, cn, rfl, hsn⟩
  have HBB := hid hbb; have HSN := hid hsn
  clear hbb hsn
  refine hK _ _ (.inr (.inr ((HX5d.out.step HBA.out).step HBB.out).sx)) ?_
  clear hK K
  refine wpHJ_only 5 (by kernel_rfl) rfl ?_
  intro K hK
  go_simp
  (with_reducible refine (callsIn_wide.2 (HLX.out _ _ _ _ _ _ _ ((HX5d.out.step HBA.out).step HBB.out) (HSM.out.keep fun i hi => ⟨Nat.lt_of_lt_of_le hi HBB.out.size, HBB.out.block i hi⟩) HSN.out ((HTd.out.below HBA.out).below HBB.out))).mono ?_)
  rintro e w6 ⟨hbc, pl1, cl1, rfl, hsl⟩
  have hbo := HBd.out.trans ((HBA.out.trans (HBB.out.mono HBA.out.size)).trans (hbc.mono (Nat.le_trans HBA.out.size HBB.out.size)) |>.mono HBd.out.size)
  have HBO := hid hbo; have HSL1 := hid hsl
  clear hbc hsl hbo
  refine hK _ _ (.inr (.inr (HX5.out.step HBO.out).sx)) ?_
  clear hK K
  refine wpHJ_pure (v := ?vb6) 6 hFa rfl (by kernel_rfl) (fun _ _ _ h => h.elim) (Or.inl ⟨by rfl, ?yb6⟩) (.inr (HX5.out.step HBO.out).sx) ?rb6
  case yb6 => (intro w' _; go_simp; try rfl)
  simp only [Act.put, List.getElem_toArray, List.getElem_cons_succ, List.getElem_cons_zero, List.setIfInBounds_toArray, List.set_cons_zero, List.set_cons_succ]
  refine wpHJ_pure (v := ?vb7) 7 hFa rfl (by kernel_rfl) (fun _ _ _ h => h.elim) (Or.inl ⟨by rfl, ?yb7⟩) (.inr (HX5.out.step HBO.out).sx) ?rb7
  case yb7 => (intro w' _; go_simp; try rfl)
  simp only [Act.put, List.getElem_toArray, List.getElem_cons_succ, List.getElem_cons_zero, List.setIfInBounds_toArray, List.set_cons_zero, List.set_cons_succ]
  refine wpHJ_pure (v := ?vb8) 8 hFa rfl (by kernel_rfl) (fun _ _ _ h => h.elim) (Or.inl ⟨by rfl, ?yb8⟩) (.inr (HX5.out.step HBO.out).sx) ?rb8
  case yb8 => (intro w' _; go_simp; try rfl)
  simp only [Act.put, List.getElem_toArray, List.getElem_cons_succ, List.getElem_cons_zero, List.setIfInBounds_toArray, List.set_cons_zero, List.set_cons_succ]
  refine wpHJ_pure (v := ?vb9) 9 hFa rfl (by kernel_rfl) (fun _ _ _ h => h.elim) (Or.inl ⟨by rfl, ?yb9⟩) (.inr (HX5.out.step HBO.out).sx) ?rb9
  case yb9 => (intro w' _; go_simp; try rfl)
  simp only [Act.put, List.getElem_toArray, List.getElem_cons_succ, List.getElem_cons_zero, List.setIfInBounds_toArray, List.set_cons_zero, List.set_cons_succ]
  refine wpHJ_only 10 (by kernel_rfl) rfl ?_
  intro K hK
  go_simp
  refine hK _ _ (.inl rfl) ?_
  clear hK K
  refine wpHJ_done (by kernel_rfl) ?_ _
  simp only [onlyN, Exit.then]
  clear hFa
  have HX6 := hid (HX5.out.step HBO.out)
  have HT6 := hid (HT5.out.below HBO.out)
  have HB6 := hid (HB5.out.trans (HBO.out.mono HB5.out.size))
  clear HBO HBA HBB HBd HX5d HTd
  have y0 : w6.cell? ⟨w.heap.size, 0, none⟩ = some (.int .u8 (x.kind : Int)) := by rw [cell_of_row w6 _ 0 _ _ _ HX6.out.c]; rfl
  have y1 : w6.cell? ⟨w.heap.size, 1, none⟩ = some (.int .u8 (x.reason : Int)) := by rw [cell_of_row w6 _ 1 _ _ _ HX6.out.c]; rfl
  obtain ⟨pl, cl, el, _, _, _, hrl⟩ := HSL1.out.op
  have epl : pl1 = pl := by injection el
  subst epl
  clear el
  obtain ⟨bl, ol, rfl, hRl, hcl⟩ := hrl.atS 0 (by rw [HN1.out]; omega)
  have hz1 : w6.cell? ⟨bl, ol, none⟩ = some (.string ⟨z.toArray⟩) := by
    have h := hcl 0 (by rw [HN1.out]; omega)
    have e : l1[0]'(by rw [HN1.out]; omega) = z := by have := HL3.out; simp [this]
    rw [e] at h; exact h
  have HCL := hid hcl; have HRL := hid hRl; have HZ1 := hid hz1
  have hnn : (l1.length : Int) = 1 := by rw [HN1.out]; omega
  have hlen0 : ¬ l1.length = 0 := by rw [HN1.out]; omega
  have hpos : (0 : Int) < 1 + 2 * (n : Int) := by omega
  clear hrl hcl hRl hz1
  go_wp2_with (go_at_call 9; refine (HWD.out _ HT6.out).mono ?_; rintro e w7 ⟨rfl, hb7⟩; have hx7 := HX6.out.step hb7; have HX7 := hid hx7; have HT7 := hid (HT6.out.below hb7); have HB7 := hid (HB6.out.trans (hb7.mono HB6.out.size)); have H67 := hid hb7; have u0 : w7.cell? ⟨w.heap.size, 0, none⟩ = some (.int .u8 (x.kind : Int)) := (by rw [cell_of_row w7 _ 0 _ _ _ hx7.c]; rfl); have u1 : w7.cell? ⟨bl, ol, none⟩ = some (.string ⟨z.toArray⟩) := (hb7.cell (p := ⟨bl, ol, none⟩) HRL.out).trans HZ1.out; clear hx7 hb7 y0 y1)
  have hS : (fun W : World => W.cell? ⟨bl, ol, none⟩ = some (.string ⟨z.toArray⟩) ∧ W.cell? ⟨w.heap.size, 0, none⟩ = some (.int .u8 (x.kind : Int))) w7.drew := ⟨u1, u0⟩
  have hFa : ∀ f, Fence.wide.fn f := fun _ => trivial
  refine (wpIn_wide (n := 9)).1 ?_
  refine wpIn_onlyN ?_
  refine wpIn_region_HJ (fun W : World => W.cell? ⟨bl, ol, none⟩ = some (.string ⟨z.toArray⟩) ∧ W.cell? ⟨w.heap.size, 0, none⟩ = some (.int .u8 (x.kind : Int))) 36 (by kernel_rfl) ?_
  simp only [List.size_toArray, List.length_cons, List.length_nil, Nat.reduceAdd]
  refine wpHJ_take (v := ?vc0) 0 hFa rfl (by kernel_rfl) (fun _ _ _ h => h.elim) (Or.inl ⟨by rfl, ?yc0⟩) hS ?rc0
  case yc0 => (intro w' hS'; obtain ⟨s1, s2⟩ := hS'; go_simp; try rfl)
  simp only [Act.put, List.getElem_toArray, List.getElem_cons_succ, List.getElem_cons_zero, List.setIfInBounds_toArray, List.set_cons_zero, List.set_cons_succ]
  refine wpHJ_take (v := ?vc1) 1 hFa rfl (by kernel_rfl) (fun _ _ _ h => h.elim) (Or.inl ⟨by rfl, ?yc1⟩) hS ?rc1
  case yc1 => (intro w' hS'; obtain ⟨s1, s2⟩ := hS'; go_simp; try rfl)
  simp only [Act.put, List.getElem_toArray, List.getElem_cons_succ, List.getElem_cons_zero, List.setIfInBounds_toArray, List.set_cons_zero, List.set_cons_succ]
  refine wpHJ_take (v := ?vc2) 2 hFa rfl (by kernel_rfl) (fun _ _ _ h => h.elim) (Or.inl ⟨by rfl, ?yc2⟩) hS ?rc2
  case yc2 => (intro w' hS'; obtain ⟨s1, s2⟩ := hS'; go_simp; try rfl)
  simp only [Act.put, List.getElem_toArray, List.getElem_cons_succ, List.getElem_cons_zero, List.setIfInBounds_toArray, List.set_cons_zero, List.set_cons_succ]
  refine wpHJ_take (v := ?vc3) 3 hFa rfl (by kernel_rfl) (fun _ _ _ h => h.elim) (Or.inl ⟨by simp [Region.wanted, yielded], ?yc3⟩) hS ?rc3
  case yc3 => (intro w' hS'; obtain ⟨s1, s2⟩ := hS'; go_simp; try rfl)
  simp only [Act.put, List.getElem_toArray, List.getElem_cons_succ, List.getElem_cons_zero, List.setIfInBounds_toArray, List.set_cons_zero, List.set_cons_succ]
  refine wpHJ_take (v := ?vc4) 4 hFa rfl (by kernel_rfl) (fun _ _ _ h => h.elim) (Or.inl ⟨by simp [Region.wanted, yielded], ?yc4⟩) hS ?rc4
  case yc4 => (intro w' hS'; obtain ⟨s1, s2⟩ := hS'; go_simp; try rfl)
  simp only [Act.put, List.getElem_toArray, List.getElem_cons_succ, List.getElem_cons_zero, List.setIfInBounds_toArray, List.set_cons_zero, List.set_cons_succ]
  refine wpHJ_take (v := ?vc5) 5 hFa rfl (by kernel_rfl) (fun _ _ _ h => h.elim) (Or.inl ⟨by rfl, ?yc5⟩) hS ?rc5
  case yc5 => (intro w' hS'; obtain ⟨s1, s2⟩ := hS'; go_simp; try rfl)
  simp only [Act.put, List.getElem_toArray, List.getElem_cons_succ, List.getElem_cons_zero, List.setIfInBounds_toArray, List.set_cons_zero, List.set_cons_succ]
  refine wpHJ_take (v := ?vc6) 6 hFa rfl (by kernel_rfl) (fun _ _ _ h => h.elim) (Or.inl ⟨by rfl, ?yc6⟩) hS ?rc6
  case yc6 => (intro w' hS'; obtain ⟨s1, s2⟩ := hS'; go_simp; try rfl)
  simp only [Act.put, List.getElem_toArray, List.getElem_cons_succ, List.getElem_cons_zero, List.setIfInBounds_toArray, List.set_cons_zero, List.set_cons_succ]
  refine wpHJ_take (v := ?vc7) 7 hFa rfl (by kernel_rfl) (fun _ _ _ h => h.elim) (Or.inl ⟨by simp [Region.wanted, yielded], ?yc7⟩) hS ?rc7
  case yc7 => (intro w' hS'; obtain ⟨s1, s2⟩ := hS'; go_simp; try rfl)
  simp only [Act.put, List.getElem_toArray, List.getElem_cons_succ, List.getElem_cons_zero, List.setIfInBounds_toArray, List.set_cons_zero, List.set_cons_succ]
  refine wpHJ_take (v := ?vc8) 8 hFa rfl (by kernel_rfl) (fun _ _ _ h => h.elim) (Or.inl ⟨by simp [Region.wanted, yielded], ?yc8⟩) hS ?rc8
  case yc8 => (intro w' hS'; obtain ⟨s1, s2⟩ := hS'; go_simp; try rfl)
  simp only [Act.put, List.getElem_toArray, List.getElem_cons_succ, List.getElem_cons_zero, List.setIfInBounds_toArray, List.set_cons_zero, List.set_cons_succ]
  refine wpHJ_take (v := ?vc9) 9 hFa rfl (by kernel_rfl) (fun _ _ _ h => h.elim) (Or.inl ⟨by simp [Region.wanted, yielded], ?yc9⟩) hS ?rc9
  case yc9 => (intro w' hS'; obtain ⟨s1, s2⟩ := hS'; go_simp; try rfl)
  simp only [Act.put, List.getElem_toArray, List.getElem_cons_succ, List.getElem_cons_zero, List.setIfInBounds_toArray, List.set_cons_zero, List.set_cons_succ]
  refine wpHJ_take (v := ?vc10) 10 hFa rfl (by kernel_rfl) (fun _ _ _ h => h.elim) (Or.inl ⟨by simp [Region.wanted, yielded], ?yc10⟩) hS ?rc10
  case yc10 => (intro w' hS'; obtain ⟨s1, s2⟩ := hS'; go_simp; try rfl)
  simp only [Act.put, List.getElem_toArray, List.getElem_cons_succ, List.getElem_cons_zero, List.setIfInBounds_toArray, List.set_cons_zero, List.set_cons_succ]
  refine wpHJ_take (v := ?vc11) 11 hFa rfl (by kernel_rfl) (fun _ _ _ h => h.elim) (Or.inl ⟨by rfl, ?yc11⟩) hS ?rc11
  case yc11 => (intro w' hS'; obtain ⟨s1, s2⟩ := hS'; go_simp; try rfl)
  simp only [Act.put, List.getElem_toArray, List.getElem_cons_succ, List.getElem_cons_zero, List.setIfInBounds_toArray, List.set_cons_zero, List.set_cons_succ]
  refine wpHJ_take (v := ?vc12) 12 hFa rfl (by kernel_rfl) (fun _ _ _ h => h.elim) (Or.inl ⟨by rfl, ?yc12⟩) hS ?rc12
  case yc12 => (intro w' hS'; obtain ⟨s1, s2⟩ := hS'; go_simp; try rfl)
  simp only [Act.put, List.getElem_toArray, List.getElem_cons_succ, List.getElem_cons_zero, List.setIfInBounds_toArray, List.set_cons_zero, List.set_cons_succ]
  refine wpHJ_take (v := ?vc13) 13 hFa rfl (by kernel_rfl) (fun _ _ _ h => h.elim) (Or.inl ⟨by simp [Region.wanted, yielded], ?yc13⟩) hS ?rc13
  case yc13 => (intro w' hS'; obtain ⟨s1, s2⟩ := hS'; go_simp; try rfl)
  simp only [Act.put, List.getElem_toArray, List.getElem_cons_succ, List.getElem_cons_zero, List.setIfInBounds_toArray, List.set_cons_zero, List.set_cons_succ]
  refine wpHJ_take (v := ?vc14) 14 hFa rfl (by kernel_rfl) (fun _ _ _ h => h.elim) (Or.inl ⟨by simp [Region.wanted, yielded], ?yc14⟩) hS ?rc14
  case yc14 => (intro w' hS'; obtain ⟨s1, s2⟩ := hS'; go_simp; try rfl)
  simp only [Act.put, List.getElem_toArray, List.getElem_cons_succ, List.getElem_cons_zero, List.setIfInBounds_toArray, List.set_cons_zero, List.set_cons_succ]
  refine wpHJ_take (v := ?vc15) 15 hFa rfl (by kernel_rfl) (fun _ _ _ h => h.elim) (Or.inl ⟨by simp [Region.wanted, yielded], ?yc15⟩) hS ?rc15
  case yc15 => (intro w' hS'; obtain ⟨s1, s2⟩ := hS'; go_simp; try rfl)
  simp only [Act.put, List.getElem_toArray, List.getElem_cons_succ, List.getElem_cons_zero, List.setIfInBounds_toArray, List.set_cons_zero, List.set_cons_succ]
  refine wpHJ_take (v := ?vc16) 16 hFa rfl (by kernel_rfl) (fun _ _ _ h => h.elim) (Or.inl ⟨by simp [Region.wanted, yielded], ?yc16⟩) hS ?rc16
  case yc16 => (intro w' hS'; obtain ⟨s1, s2⟩ := hS'; go_simp; try rfl)
  simp only [Act.put, List.getElem_toArray, List.getElem_cons_succ, List.getElem_cons_zero, List.setIfInBounds_toArray, List.set_cons_zero, List.set_cons_succ]
  refine wpHJ_only 17 (by kernel_rfl) rfl ?_
  intro K hK
  rw [if_pos (by simp [Region.wanted, yielded])]
  go_simp
  (with_reducible refine (callsIn_wide.2 (HHP.out w7.drew)).mono ?_)
  rintro e w8 ⟨rfl, rfl⟩
  refine hK _ _ (.inr (.inr hS)) ?_
  clear hK K
  refine wpHJ_take (v := ?vc18) 18 hFa rfl (by kernel_rfl) (fun _ _ _ h => h.elim) (Or.inl ⟨by simp [Region.wanted, yielded], ?yc18⟩) hS ?rc18
  case yc18 => (intro w' hS'; obtain ⟨s1, s2⟩ := hS'; go_simp; try rfl)
  simp only [Act.put, List.getElem_toArray, List.getElem_cons_succ, List.getElem_cons_zero, List.setIfInBounds_toArray, List.set_cons_zero, List.set_cons_succ]
  refine wpHJ_take (v := ?vc19) 19 hFa rfl (by kernel_rfl) (fun _ _ _ h => h.elim) (Or.inl ⟨by rfl, ?yc19⟩) hS ?rc19
  case yc19 => (intro w' hS'; obtain ⟨s1, s2⟩ := hS'; go_simp; try rfl)
  simp only [Act.put, List.getElem_toArray, List.getElem_cons_succ, List.getElem_cons_zero, List.setIfInBounds_toArray, List.set_cons_zero, List.set_cons_succ]
  refine wpHJ_take (v := ?vc20) 20 hFa rfl (by kernel_rfl) (fun _ _ _ h => h.elim) (Or.inl ⟨by rfl, ?yc20⟩) hS ?rc20
  case yc20 => (intro w' hS'; obtain ⟨s1, s2⟩ := hS'; go_simp; try rfl)
  simp only [Act.put, List.getElem_toArray, List.getElem_cons_succ, List.getElem_cons_zero, List.setIfInBounds_toArray, List.set_cons_zero, List.set_cons_succ]
  refine wpHJ_take (v := ?vc21) 21 hFa rfl (by kernel_rfl) (fun _ _ _ h => h.elim) (Or.inl ⟨by simp [Region.wanted, yielded], ?yc21⟩) hS ?rc21
  case yc21 => (intro w' hS'; obtain ⟨s1, s2⟩ := hS'; go_simp; try rfl)
  simp only [Act.put, List.getElem_toArray, List.getElem_cons_succ, List.getElem_cons_zero, List.setIfInBounds_toArray, List.set_cons_zero, List.set_cons_succ]
  refine wpHJ_take (v := ?vc22) 22 hFa rfl (by kernel_rfl) (fun _ _ _ h => h.elim) (Or.inl ⟨by simp [Region.wanted, yielded], ?yc22⟩) hS ?rc22
  case yc22 => (intro w' hS'; obtain ⟨s1, s2⟩ := hS'; go_simp; try rfl)
  simp only [Act.put, List.getElem_toArray, List.getElem_cons_succ, List.getElem_cons_zero, List.setIfInBounds_toArray, List.set_cons_zero, List.set_cons_succ]
  refine wpHJ_take (v := ?vc23) 23 hFa rfl (by kernel_rfl) (fun _ _ _ h => h.elim) (Or.inl ⟨by simp [Region.wanted, yielded], ?yc23⟩) hS ?rc23
  case yc23 => (intro w' hS'; obtain ⟨s1, s2⟩ := hS'; go_simp; try rfl)
  simp only [Act.put, List.getElem_toArray, List.getElem_cons_succ, List.getElem_cons_zero, List.setIfInBounds_toArray, List.set_cons_zero, List.set_cons_succ]
  refine wpHJ_take (v := ?vc24) 24 hFa rfl (by kernel_rfl) (fun _ _ _ h => h.elim) (Or.inl ⟨by simp [Region.wanted, yielded], ?yc24⟩) hS ?rc24
  case yc24 => (intro w' hS'; obtain ⟨s1, s2⟩ := hS'; go_simp; try rfl)
  simp only [Act.put, List.getElem_toArray, List.getElem_cons_succ, List.getElem_cons_zero, List.setIfInBounds_toArray, List.set_cons_zero, List.set_cons_succ]
  refine wpHJ_take (v := ?vc25) 25 hFa rfl (by kernel_rfl) (fun _ _ _ h => h.elim) (Or.inl ⟨by simp [Region.wanted, yielded], ?yc25⟩) hS ?rc25
  case yc25 => (intro w' hS'; obtain ⟨s1, s2⟩ := hS'; go_simp; try rfl)
  simp only [Act.put, List.getElem_toArray, List.getElem_cons_succ, List.getElem_cons_zero, List.setIfInBounds_toArray, List.set_cons_zero, List.set_cons_succ]
  refine wpHJ_take (v := ?vc26) 26 hFa rfl (by kernel_rfl) (fun _ _ _ h => h.elim) (Or.inl ⟨by simp [Region.wanted, yielded], ?yc26⟩) hS ?rc26
  case yc26 => (intro w' hS'; obtain ⟨s1, s2⟩ := hS'; go_simp; try rfl)
  simp only [Act.put, List.getElem_toArray, List.getElem_cons_succ, List.getElem_cons_zero, List.setIfInBounds_toArray, List.set_cons_zero, List.set_cons_succ]
  refine wpHJ_take (v := ?vc27) 27 hFa rfl (by kernel_rfl) (fun _ _ _ h => h.elim) (Or.inl ⟨by simp [Region.wanted, yielded], ?yc27⟩) hS ?rc27
  case yc27 => (intro w' hS'; obtain ⟨s1, s2⟩ := hS'; go_simp; try rfl)
  simp only [Act.put, List.getElem_toArray, List.getElem_cons_succ, List.getElem_cons_zero, List.setIfInBounds_toArray, List.set_cons_zero, List.set_cons_succ]
  refine wpHJ_take (v := ?vc28) 28 hFa rfl (by kernel_rfl) (fun _ _ _ h => h.elim) (Or.inl ⟨by simp [Region.wanted, yielded], ?yc28⟩) hS ?rc28
  case yc28 => (intro w' hS'; obtain ⟨s1, s2⟩ := hS'; go_simp; try rfl)
  simp only [Act.put, List.getElem_toArray, List.getElem_cons_succ, List.getElem_cons_zero, List.setIfInBounds_toArray, List.set_cons_zero, List.set_cons_succ]
  refine wpHJ_take (v := ?vc29) 29 hFa rfl (by kernel_rfl) (fun _ _ _ h => h.elim) (Or.inl ⟨by simp [Region.wanted, yielded], ?yc29⟩) hS ?rc29
  case yc29 => (intro w' hS'; obtain ⟨s1, s2⟩ := hS'; go_simp; try rfl)
  simp only [Act.put, List.getElem_toArray, List.getElem_cons_succ, List.getElem_cons_zero, List.setIfInBounds_toArray, List.set_cons_zero, List.set_cons_succ]
  refine wpHJ_take (v := undef) 30 hFa rfl (by kernel_rfl) (fun _ _ _ h => h.elim) (Or.inr ⟨by simp [Region.wanted, yielded], rfl⟩) hS ?rc30
  simp only [Act.put, List.getElem_toArray, List.getElem_cons_succ, List.getElem_cons_zero, List.setIfInBounds_toArray, List.set_cons_zero, List.set_cons_succ]
  refine wpHJ_take (v := undef) 31 hFa rfl (by kernel_rfl) (fun _ _ _ h => h.elim) (Or.inr ⟨by simp [Region.wanted, yielded], rfl⟩) hS ?rc31
  simp only [Act.put, List.getElem_toArray, List.getElem_cons_succ, List.getElem_cons_zero, List.setIfInBounds_toArray, List.set_cons_zero, List.set_cons_succ]
  refine wpHJ_take (v := undef) 32 hFa rfl (by kernel_rfl) (fun _ _ _ h => h.elim) (Or.inr ⟨by simp [Region.wanted, yielded], rfl⟩) hS ?rc32
  simp only [Act.put, List.getElem_toArray, List.getElem_cons_succ, List.getElem_cons_zero, List.setIfInBounds_toArray, List.set_cons_zero, List.set_cons_succ]
  refine wpHJ_take (v := ?vc33) 33 hFa rfl (by kernel_rfl) (fun _ _ _ h => h.elim) (Or.inl ⟨by simp [Region.wanted, yielded], ?yc33⟩) hS ?rc33
  case yc33 => (intro w' hS'; obtain ⟨s1, s2⟩ := hS'; go_simp; try rfl)
  simp only [Act.put, List.getElem_toArray, List.getElem_cons_succ, List.getElem_cons_zero, List.setIfInBounds_toArray, List.set_cons_zero, List.set_cons_succ]
  refine wpHJ_take (v := ?vc34) 34 hFa rfl (by kernel_rfl) (fun _ _ _ h => h.elim) (Or.inl ⟨by simp [Region.wanted, yielded], ?yc34⟩) hS ?rc34
  case yc34 => (intro w' hS'; obtain ⟨s1, s2⟩ := hS'; go_simp; try rfl)
  simp only [Act.put, List.getElem_toArray, List.getElem_cons_succ, List.getElem_cons_zero, List.setIfInBounds_toArray, List.set_cons_zero, List.set_cons_succ]
  refine wpHJ_only 35 (by kernel_rfl) rfl ?_
  intro K hK
  go_simp
  refine hK _ _ (.inr (.inr hS)) ?_
  clear hK K
  refine wpHJ_done (by kernel_rfl) ?_ _
  simp only [onlyN, Exit.then]
  clear hFa
  go_wp2_with fail
  have HB8 := hid (show Below w7.heap.size w7 w7.drew from below_self w7)
  generalize w7.drew = w8 at *
  clear hpos hnn hlen0 hS u0 u1 k0 k1 k2 hse hse2
  go_loopw [12] (fun iv W => ∃ k : Nat, k ≤ l1.length ∧ iv = .int .i64 (k : Int) ∧ Below w7.heap.size w7 W) (fun iv _ => l1.length - (intOf iv).toNat)
  case atStart => exact ⟨0, Nat.zero_le _, rfl, HB8.out⟩
  case round =>
    obtain ⟨k, hk, rfl, hb⟩ := hrel
    obtain ⟨wo, rfl⟩ : ∃ wo : World, wo = wr := ⟨_, rfl⟩
    have HBW := hid hb
    clear hb
    by_cases hlt : k < l1.length
    · have hcell := (H67.out.trans (HBW.out.mono H67.out.size) |>.cell (p := ⟨bl, ol + k, none⟩) HRL.out).trans (HCL.out k hlt)
      obtain ⟨ok1, ok2⟩ := HL6.out _ (List.getElem_mem hlt)
      generalize l1[k] = s at *
      have HCB := hid (fun c W => show Calls Tryd.prog 22 #[.string ⟨s.toArray⟩, .string ⟨#[c]⟩] W fun e w' => e = .returned (.bool (decide (0 ≤ Lib.indexByte s c))) ∧ w' = W from Tryd.strings_Contains_one ⟨s.toArray⟩ c W)
      have HC1 := hid (fun W => show Calls Tryd.prog 22 #[.string ⟨s.toArray⟩, .string ⟨#[10]⟩] W fun e w' => e = .returned (.bool false) ∧ w' = W from by
        have h := HCB.out 10 W
        rw [lineOk_byte ok1] at h; exact h)
      have HC2 := hid (fun W (hW : W.cell? ⟨2, 0, none⟩ = some (.int .i64 mx)) => show Calls Tryd.prog 22 #[.string ⟨s.toArray⟩, .string ⟨#[32, 32]⟩] W fun e w' => e = .returned (.bool false) ∧ w' = W from by
        have h := Tryd.strings_Contains ⟨s.toArray⟩ ⟨#[32, 32]⟩ mx W (by show s.toArray.size < 4294967281; simp; omega) hW
        have e : Lib.contains (⟨s.toArray⟩ : ByteArray).data.toList (⟨#[32, 32]⟩ : ByteArray).data.toList = false := by
          show decide (0 ≤ Lib.index s [32, 32]) = false
          rw [lineOk_index ok1]; rfl
        rw [e] at h; exact h)
      have HSF := hid (fun W => show Calls Tryd.prog 23 #[.string ⟨s.toArray⟩, .string ⟨#[32]⟩] W fun e w' => e = .returned (.bool false) ∧ w' = W from by
        have h := Tryd.strings_HasSuffix ⟨s.toArray⟩ ⟨#[32]⟩ W (by show s.toArray.size ≤ 9223372036854775807; simp; omega)
        have e : Lib.hasSuffix (⟨s.toArray⟩ : ByteArray).data.toList (⟨#[32]⟩ : ByteArray).data.toList = false := lineOk_suffix ok1
        rw [e] at h; exact h)
      have hmw := HB7.out.trans (HBW.out.mono HB7.out.size) |>.cell (p := ⟨2, 0, none⟩) (cell_size HMX.out) |>.trans HMX.out
      have HMW := hid hmw
      have hk63 : (k : Int) + 1 ≤ 9223372036854775807 := by omega
      clear HCB ok1 hmw
      go_wp2_with (first
        | (go_at_call 22; (first | with_reducible refine (HC1.out _).mono ?_ | with_reducible refine (HC2.out _ HMW.out).mono ?_); rintro e w9 ⟨rfl, rfl⟩)
        | (go_at_call 23; with_reducible refine (HSF.out _).mono ?_; rintro e w9 ⟨rfl, rfl⟩))
      go_roundw
      case rel => exact ⟨k + 1, by omega, by go_num, HBW.out⟩
      case measure => simp [intOf]; omega
    · obtain rfl : k = l1.length := by omega
      have HTW := hid (HT7.out.below HBW.out)
      go_wp2_with (go_at_call 11; with_reducible refine (awake_any _ HTW.out).mono ?_; rintro e w9 ⟨rfl, hb9⟩; have HB9 := hid hb9; clear hb9)
      go_ret
      exact ⟨rfl, HB7.out.trans ((HBW.out.trans (HB9.out.mono HBW.out.size)).mono HB7.out.size)⟩

set_option maxRecDepth 100000 in
set_option maxHeartbeats 4000000 in
theorem counts_1 (v : Vd) (pA pB : Option Addr) (cA cB : Nat) (lv ch : Int) (mx : Int) (w : World) (m n : Nat) (x : Vd) (hx : madeV v m n = x) (hk : x.kind = 1) (hv : VdOk v) (hvA : NLL (fun i => i < w.heap.size) w (.slice pA v.A.length cA) v.A) (hvB : NLL (fun i => i < w.heap.size) w (.slice pB v.B.length cB) v.B)
    (lvA : ∀ y ∈ v.A, y.length ≤ 17592186044415) (lvB : ∀ y ∈ v.B, y.length ≤ 17592186044415) (q : Nat) (hq : lv % 5 = (q : Int)) (hn : ch % 5 = (n : Int)) (hm : m = 1 + q) (hlv : -9223372036854775808 ≤ lv ∧ lv ≤ 9223372036854775807) (hch : -9223372036854775808 ≤ ch ∧ ch ≤ 9223372036854775807) (ht : Tabs w) (hmx : w.cell? ⟨2, 0, none⟩ = some (.int .i64 mx)) :
    Calls Tryd.prog 8 #[.agg #[.int .u8 (v.kind : Int), .int .u8 (v.reason : Int), .int .i64 v.level, .slice pA v.A.length cA, .slice pB v.B.length cB, .bool v.imp, .bool v.pol, .int .i64 v.line, .int .i64 v.col, .int .i64 v.err], .int .i64 lv, .int .i64 ch] w fun e w' => e = .returned (.bool true) ∧ Below w.heap.size w w' := by
  obtain ⟨W0, hW0⟩ : ∃ W, w.alloc (.cells #[.int .u8 (v.kind : Int), .int .u8 (v.reason : Int), .int .i64 v.level, .slice pA v.A.length cA, .slice pB v.B.length cB, .bool v.imp, .bool v.pol, .int .i64 v.line, .int .i64 v.col, .int .i64 v.err] 35) = W := ⟨_, rfl⟩
  have hb0 : Below w.heap.size w W0 := by rw [← hW0]; exact (Below.refl _ _).alloc (Nat.le_refl _) _
  have hz0 : W0.heap.size = w.heap.size + 1 := by rw [← hW0, World.size_alloc]
  have hc0 : W0.heap[w.heap.size]? = some (.cells #[.int .u8 (v.kind : Int), .int .u8 (v.reason : Int), .int .i64 v.level, .slice pA v.A.length cA, .slice pB v.B.length cB, .bool v.imp, .bool v.pol, .int .i64 v.line, .int .i64 v.col, .int .i64 v.err] 35 (0, 0)) := by rw [← hW0, heap_al, if_pos rfl]
  have up : ∀ i, i < w.heap.size → i < W0.heap.size ∧ W0.heap[i]? = w.heap[i]? := fun i hi => ⟨by omega, hb0.block i hi⟩
  have hv0 : VB W0 (w.heap.size) v pA cA pB cB := ⟨hc0, hvA.keep up, hvB.keep up⟩
  have HQ := hid (kmod_lit lv 5 q hlv (by omega) hq)
  have HN := hid (kmod_lit ch 5 n hch (by omega) hn)
  have hq4 : q ≤ 4 := by omega
  have hn4 : n ≤ 4 := by omega
  have em : 1 + (q : Int) = (m : Int) := by omega
  have hm1 : 1 ≤ m ∧ m ≤ 5 := by omega
  have hxo : VdOk x := by rw [← hx]; exact made_ok v m n hv (by omega)
  have hxm : Mv m n x := by rw [← hx]; exact made_mv v m n (by omega)
  have hrw : (∀ l ∈ x.A, l.length ≤ 20) ∧ ∀ l ∈ x.B, l.length ≤ 20 := by rw [← hx]; exact made_rows v m n
  obtain ⟨g1, g2, ⟨z, r, g3, g4, g5⟩, g6⟩ := counts hxm hxo hrw.1 hrw.2 (by omega) (by omega)
  obtain ⟨l1, hl1⟩ : ∃ l, (vlinesR x (namesL m) (namesL n)).1 = l := ⟨_, rfl⟩
  rw [hl1] at g2 g3 g6
  have HWD0 := hid (fun W (hW : Tabs W) => word_any x.kind x.reason W hxo.kind hxo.reason hW)
  unfold WordPost at HWD0
  rw [g1] at HWD0
  generalize (wordR x.kind x.reason).1 = wd at *
  have HWD := HWD0
  have g5' : decide (z = wd) = false := by rw [g5, hk]; decide
  have hN : l1.length = 1 + 2 * n := by rw [g2, hk]; simp
  have hse : ((⟨z.toArray⟩ : ByteArray).toList == (⟨wd.toArray⟩ : ByteArray).toList) = false := by rw [str_eqL, g5']
  have hse2 : (z == wd) = false := by rw [← g5']; by_cases h : z = wd <;> simp [h]
  have HHP := hid (fun W => show Calls Tryd.prog 21 #[.string ⟨z.toArray⟩, .string ⟨wd.toArray⟩] W fun e w' => e = .returned (.bool true) ∧ w' = W from by
    have h := Tryd.strings_HasPrefix ⟨z.toArray⟩ ⟨wd.toArray⟩ W
    have e : Lib.hasPrefix (⟨z.toArray⟩ : ByteArray).data.toList (⟨wd.toArray⟩ : ByteArray).data.toList = true := g4
    rw [e] at h; exact h)
  have HL6 := hid g6; have HL3 := hid g3
  have HMV := hid (made_boxV m n hv0 hv (by omega) (by omega) lvA lvB x hx)
  have HNM := hid (fun W => names_box m W (by omega))
  have HNC := hid (fun W => names_box n W (by omega))
  have HLX := hid (fun (W : World) (p1 : Option Addr) (c1 : Nat) (p2 : Option Addr) (c2 : Nat) (vl vc : Value) (h : VB W (w.heap.size) x p1 c1 p2 c2) => lines_boxV (vl := vl) (vc := vc) hxo hxm (by omega) l1 hl1 h)
  have k0 : ((x.kind : Int) == 0) = false := by rw [hk]; decide
  have k1 : ((x.kind : Int) == 1) = true := by rw [hk]; decide
  have k2 : ((x.kind : Int) == 2) = false := by rw [hk]; decide
  have HV0 := hid hv0; have HB0 := hid hb0; have HZ := hid hz0; have HWW := hid hW0; have HT := hid ht; have HMX := hid hmx; have HN1 := hid hN
  clear HWD0 hvA hvB hb0 hz0 hc0 hW0 up lvA lvB hv hxo hxm hrw hl1 hv0 hx hq hn ht hm hmx hk g1 g2 g3 g4 g5 g6 g5' hN
  go_enter Tryd.func8, Tryd.ntmps8
  go_wp2_with (go_at_call 13; (first | with_reducible refine (HQ.out _).mono ?_ | with_reducible refine (HN.out _).mono ?_); rintro e w1 ⟨rfl, rfl⟩)
  rw [HWW.out]
  refine HMV.out.mono ?_
  rintro e w2 ⟨hb2, p1, c1, p2, c2, rfl, hx1, hx2⟩
  have hv2 := HV0.out.step hb2
  have HV2 := hid hv2; have HX1 := hid hx1; have HX2 := hid hx2; have HB2 := hid (HB0.out.trans (hb2.mono HB0.out.size))
  have x0 : w2.cell? ⟨w.heap.size, 0, none⟩ = some (.int .u8 (v.kind : Int)) := (by rw [cell_of_row w2 _ 0 _ _ _ hv2.c]; rfl)
  have f0 : w2.frozen? ⟨w.heap.size, 0, none⟩ = false := frozen_of_row w2 _ 0 _ _ hv2.c
  have x1 : w2.cell? ⟨w.heap.size, 1, none⟩ = some (.int .u8 (v.reason : Int)) := (by rw [cell_of_row w2 _ 1 _ _ _ hv2.c]; rfl)
  have f1 : w2.frozen? ⟨w.heap.size, 1, none⟩ = false := frozen_of_row w2 _ 1 _ _ hv2.c
  have x2 : w2.cell? ⟨w.heap.size, 2, none⟩ = some (.int .i64 v.level) := (by rw [cell_of_row w2 _ 2 _ _ _ hv2.c]; rfl)
  have f2 : w2.frozen? ⟨w.heap.size, 2, none⟩ = false := frozen_of_row w2 _ 2 _ _ hv2.c
  have x3 : w2.cell? ⟨w.heap.size, 3, none⟩ = some (.slice pA v.A.length cA) := (by rw [cell_of_row w2 _ 3 _ _ _ hv2.c]; rfl)
  have f3 : w2.frozen? ⟨w.heap.size, 3, none⟩ = false := frozen_of_row w2 _ 3 _ _ hv2.c
  have x4 : w2.cell? ⟨w.heap.size, 4, none⟩ = some (.slice pB v.B.length cB) := (by rw [cell_of_row w2 _ 4 _ _ _ hv2.c]; rfl)
  have f4 : w2.frozen? ⟨w.heap.size, 4, none⟩ = false := frozen_of_row w2 _ 4 _ _ hv2.c
  have x5 : w2.cell? ⟨w.heap.size, 5, none⟩ = some (.bool v.imp) := (by rw [cell_of_row w2 _ 5 _ _ _ hv2.c]; rfl)
  have f5 : w2.frozen? ⟨w.heap.size, 5, none⟩ = false := frozen_of_row w2 _ 5 _ _ hv2.c
  have x6 : w2.cell? ⟨w.heap.size, 6, none⟩ = some (.bool v.pol) := (by rw [cell_of_row w2 _ 6 _ _ _ hv2.c]; rfl)
  have f6 : w2.frozen? ⟨w.heap.size, 6, none⟩ = false := frozen_of_row w2 _ 6 _ _ hv2.c
  have x7 : w2.cell? ⟨w.heap.size, 7, none⟩ = some (.int .i64 v.line) := (by rw [cell_of_row w2 _ 7 _ _ _ hv2.c]; rfl)
  have f7 : w2.frozen? ⟨w.heap.size, 7, none⟩ = false := frozen_of_row w2 _ 7 _ _ hv2.c
  have x8 : w2.cell? ⟨w.heap.size, 8, none⟩ = some (.int .i64 v.col) := (by rw [cell_of_row w2 _ 8 _ _ _ hv2.c]; rfl)
  have f8 : w2.frozen? ⟨w.heap.size, 8, none⟩ = false := frozen_of_row w2 _ 8 _ _ hv2.c
  have x9 : w2.cell? ⟨w.heap.size, 9, none⟩ = some (.int .i64 v.err) := (by rw [cell_of_row w2 _ 9 _ _ _ hv2.c]; rfl)
  have f9 : w2.frozen? ⟨w.heap.size, 9, none⟩ = false := frozen_of_row w2 _ 9 _ _ hv2.c
  clear hb2 hx1 hx2 hv2
  go_wp2_with (obtain ⟨w5, hw5⟩ : ∃ W, ((((((((((w2).setCell ⟨w.heap.size, 0, none⟩ (.int .u8 (x.kind : Int))).setCell ⟨w.heap.size, 1, none⟩ (.int .u8 (x.reason : Int))).setCell ⟨w.heap.size, 2, none⟩ (.int .i64 x.level)).setCell ⟨w.heap.size, 3, none⟩ (.slice p1 x.A.length c1)).setCell ⟨w.heap.size, 4, none⟩ (.slice p2 x.B.length c2)).setCell ⟨w.heap.size, 5, none⟩ (.bool x.imp)).setCell ⟨w.heap.size, 6, none⟩ (.bool x.pol)).setCell ⟨w.heap.size, 7, none⟩ (.int .i64 x.line)).setCell ⟨w.heap.size, 8, none⟩ (.int .i64 x.col)).setCell ⟨w.heap.size, 9, none⟩ (.int .i64 x.err) = W := ⟨_, rfl⟩; rw [hw5]; obtain ⟨hx5, hk5, hs5, hb5⟩ := HV2.out.of_set (x := x) (p1 := p1) (c1 := c1) (p2 := p2) (c2 := c2) HX1.out HX2.out (fun i hi => ⟨by have := HZ.out; omega, hi.2⟩) (fun i hi => ⟨by have := HZ.out; omega, hi.2⟩) hw5; have HX5 := hid hx5; have HB5 := hid (hb5 HB2.out (Nat.le_refl _)); have HT5 := hid (HT.out.below HB5.out); clear x0 f0 x1 f1 x2 f2 x3 f3 x4 f4 x5 f5 x6 f6 x7 f7 x8 f8 x9 f9 hw5 hx5 hk5 hs5 hb5)
  have hS : (Sx (w.heap.size) x p1 c1 p2 c2) w5.drew := (HX5.out.step (below_self _)).sx
  have hFa : ∀ f, Fence.wide.fn f := fun _ => trivial
  refine (wpIn_wide (n := 9)).1 ?_
  refine wpIn_onlyN ?_
  refine wpIn_region_HJ (Sx (w.heap.size) x p1 c1 p2 c2) 10 (by kernel_rfl) ?_
  simp only [List.size_toArray, List.length_cons, List.length_nil, Nat.reduceAdd]
  refine wpHJ_take (v := ?vb0) 0 hFa rfl (by kernel_rfl) (fun _ _ _ h => h.elim) (Or.inl ⟨by rfl, ?yb0⟩) hS ?rb0
  case yb0 => (intro w' hS'; obtain ⟨s0, s1, s2, s3, s4, s5, s6, s7, s8, s9⟩ := hS'; go_simp; try rfl)
  simp only [Act.put, List.getElem_toArray, List.getElem_cons_succ, List.getElem_cons_zero, List.setIfInBounds_toArray, List.set_cons_zero, List.set_cons_succ]
  refine wpHJ_pure (v := ?vb1) 1 hFa rfl (by kernel_rfl) (fun _ _ _ h => h.elim) (Or.inl ⟨by rfl, ?yb1⟩) (.inr hS) ?rb1
  case yb1 => (intro w' _; go_simp; try rfl)
  simp only [Act.put, List.getElem_toArray, List.getElem_cons_succ, List.getElem_cons_zero, List.setIfInBounds_toArray, List.set_cons_zero, List.set_cons_succ]
  refine wpHJ_pure (v := ?vb3) 3 hFa rfl (by kernel_rfl) (fun _ _ _ h => h.elim) (Or.inl ⟨by rfl, ?yb3⟩) (.inr hS) ?rb3
  case yb3 => (intro w' _; go_simp; try rfl)
  simp only [Act.put, List.getElem_toArray, List.getElem_cons_succ, List.getElem_cons_zero, List.setIfInBounds_toArray, List.set_cons_zero, List.set_cons_succ]
  clear hS
  have hbd := below_self w5
  have hvd := HX5.out.step hbd
  have htd := HT5.out.below hbd
  generalize w5.drew = wd3 at *
  have HX5d := hid hvd; have HBd := hid hbd; have HTd := hid htd
  clear hvd hbd htd
  refine wpHJ_only 2 (by kernel_rfl) rfl ?_
  intro K hK
  go_simp
  (with_reducible refine (callsIn_wide.2 (HNM.out wd3)).mono ?_)
  rintro e wd3a ⟨hba, pm, cm, rfl, hsm⟩
  have HBA := hid hba; have HSM := hid hsm
  clear hba hsm
  refine hK _ _ (.inr (.inr (HX5d.out.step HBA.out).sx)) ?_
  clear hK K
  refine wpHJ_only 4 (by kernel_rfl) rfl ?_
  intro K hK
  go_simp
  (with_reducible refine (callsIn_wide.2 (HNC.out wd3a)).mono ?_)
  rintro e wd3b ⟨hbb, pn, cn, rfl, hsn⟩
  have HBB := hid hbb; have HSN := hid hsn
  clear hbb hsn
  refine hK _ _ (.inr (.inr ((HX5d.out.step HBA.out).step HBB.out).sx)) ?_
  clear hK K
  refine wpHJ_only 5 (by kernel_rfl) rfl ?_
  intro K hK
  go_simp
  (with_reducible refine (callsIn_wide.2 (HLX.out _ _ _ _ _ _ _ ((HX5d.out.step HBA.out).step HBB.out) (HSM.out.keep fun i hi => ⟨Nat.lt_of_lt_of_le hi HBB.out.size, HBB.out.block i hi⟩) HSN.out ((HTd.out.below HBA.out).below HBB.out))).mono ?_)
  rintro e w6 ⟨hbc, pl1, cl1, rfl, hsl⟩
  have hbo := HBd.out.trans ((HBA.out.trans (HBB.out.mono HBA.out.size)).trans (hbc.mono (Nat.le_trans HBA.out.size HBB.out.size)) |>.mono HBd.out.size)
  have HBO := hid hbo; have HSL1 := hid hsl
  clear hbc hsl hbo
  refine hK _ _ (.inr (.inr (HX5.out.step HBO.out).sx)) ?_
  clear hK K
  refine wpHJ_pure (v := ?vb6) 6 hFa rfl (by kernel_rfl) (fun _ _ _ h => h.elim) (Or.inl ⟨by rfl, ?yb6⟩) (.inr (HX5.out.step HBO.out).sx) ?rb6
  case yb6 => (intro w' _; go_simp; try rfl)
  simp only [Act.put, List.getElem_toArray, List.getElem_cons_succ, List.getElem_cons_zero, List.setIfInBounds_toArray, List.set_cons_zero, List.set_cons_succ]
  refine wpHJ_pure (v := ?vb7) 7 hFa rfl (by kernel_rfl) (fun _ _ _ h => h.elim) (Or.inl ⟨by rfl, ?yb7⟩) (.inr (HX5.out.step HBO.out).sx) ?rb7
  case yb7 => (intro w' _; go_simp; try rfl)
  simp only [Act.put, List.getElem_toArray, List.getElem_cons_succ, List.getElem_cons_zero, List.setIfInBounds_toArray, List.set_cons_zero, List.set_cons_succ]
  refine wpHJ_pure (v := ?vb8) 8 hFa rfl (by kernel_rfl) (fun _ _ _ h => h.elim) (Or.inl ⟨by rfl, ?yb8⟩) (.inr (HX5.out.step HBO.out).sx) ?rb8
  case yb8 => (intro w' _; go_simp; try rfl)
  simp only [Act.put, List.getElem_toArray, List.getElem_cons_succ, List.getElem_cons_zero, List.setIfInBounds_toArray, List.set_cons_zero, List.set_cons_succ]
  refine wpHJ_pure (v := ?vb9) 9 hFa rfl (by kernel_rfl) (fun _ _ _ h => h.elim) (Or.inl ⟨by rfl, ?yb9⟩) (.inr (HX5.out.step HBO.out).sx) ?rb9
  case yb9 => (intro w' _; go_simp; try rfl)
  simp only [Act.put, List.getElem_toArray, List.getElem_cons_succ, List.getElem_cons_zero, List.setIfInBounds_toArray, List.set_cons_zero, List.set_cons_succ]
  refine wpHJ_only 10 (by kernel_rfl) rfl ?_
  intro K hK
  go_simp
  refine hK _ _ (.inl rfl) ?_
  clear hK K
  refine wpHJ_done (by kernel_rfl) ?_ _
  simp only [onlyN, Exit.then]
  clear hFa
  have HX6 := hid (HX5.out.step HBO.out)
  have HT6 := hid (HT5.out.below HBO.out)
  have HB6 := hid (HB5.out.trans (HBO.out.mono HB5.out.size))
  clear HBO HBA HBB HBd HX5d HTd
  have y0 : w6.cell? ⟨w.heap.size, 0, none⟩ = some (.int .u8 (x.kind : Int)) := by rw [cell_of_row w6 _ 0 _ _ _ HX6.out.c]; rfl
  have y1 : w6.cell? ⟨w.heap.size, 1, none⟩ = some (.int .u8 (x.reason : Int)) := by rw [cell_of_row w6 _ 1 _ _ _ HX6.out.c]; rfl
  obtain ⟨pl, cl, el, _, _, _, hrl⟩ := HSL1.out.op
  have epl : pl1 = pl := by injection el
  subst epl
  clear el
  obtain ⟨bl, ol, rfl, hRl, hcl⟩ := hrl.atS 0 (by rw [HN1.out]; omega)
  have hz1 : w6.cell? ⟨bl, ol, none⟩ = some (.string ⟨z.toArray⟩) := by
    have h := hcl 0 (by rw [HN1.out]; omega)
    have e : l1[0]'(by rw [HN1.out]; omega) = z := by have := HL3.out; simp [this]
    rw [e] at h; exact h
  have HCL := hid hcl; have HRL := hid hRl; have HZ1 := hid hz1
  have hnn : (l1.length : Int) = 1 + 2 * (n : Int) := by rw [HN1.out]; omega
  have hlen0 : ¬ l1.length = 0 := by rw [HN1.out]; omega
  have hpos : (0 : Int) < 1 + 2 * (n : Int) := by omega
  clear hrl hcl hRl hz1
  go_wp2_with (go_at_call 9; refine (HWD.out _ HT6.out).mono ?_; rintro e w7 ⟨rfl, hb7⟩; have hx7 := HX6.out.step hb7; have HX7 := hid hx7; have HT7 := hid (HT6.out.below hb7); have HB7 := hid (HB6.out.trans (hb7.mono HB6.out.size)); have H67 := hid hb7; have u0 : w7.cell? ⟨w.heap.size, 0, none⟩ = some (.int .u8 (x.kind : Int)) := (by rw [cell_of_row w7 _ 0 _ _ _ hx7.c]; rfl); have u1 : w7.cell? ⟨bl, ol, none⟩ = some (.string ⟨z.toArray⟩) := (hb7.cell (p := ⟨bl, ol, none⟩) HRL.out).trans HZ1.out; clear hx7 hb7 y0 y1)
  have hS : (fun W : World => W.cell? ⟨bl, ol, none⟩ = some (.string ⟨z.toArray⟩) ∧ W.cell? ⟨w.heap.size, 0, none⟩ = some (.int .u8 (x.kind : Int))) w7.drew := ⟨u1, u0⟩
  have hFa : ∀ f, Fence.wide.fn f := fun _ => trivial
  refine (wpIn_wide (n := 9)).1 ?_
  refine wpIn_onlyN ?_
  refine wpIn_region_HJ (fun W : World => W.cell? ⟨bl, ol, none⟩ = some (.string ⟨z.toArray⟩) ∧ W.cell? ⟨w.heap.size, 0, none⟩ = some (.int .u8 (x.kind : Int))) 36 (by kernel_rfl) ?_
  simp only [List.size_toArray, List.length_cons, List.length_nil, Nat.reduceAdd]
  refine wpHJ_take (v := ?vc0) 0 hFa rfl (by kernel_rfl) (fun _ _ _ h => h.elim) (Or.inl ⟨by rfl, ?yc0⟩) hS ?rc0
  case yc0 => (intro w' hS'; obtain ⟨s1, s2⟩ := hS'; go_simp; try rfl)
  simp only [Act.put, List.getElem_toArray, List.getElem_cons_succ, List.getElem_cons_zero, List.setIfInBounds_toArray, List.set_cons_zero, List.set_cons_succ]
  refine wpHJ_take (v := ?vc1) 1 hFa rfl (by kernel_rfl) (fun _ _ _ h => h.elim) (Or.inl ⟨by rfl, ?yc1⟩) hS ?rc1
  case yc1 => (intro w' hS'; obtain ⟨s1, s2⟩ := hS'; go_simp; try rfl)
  simp only [Act.put, List.getElem_toArray, List.getElem_cons_succ, List.getElem_cons_zero, List.setIfInBounds_toArray, List.set_cons_zero, List.set_cons_succ]
  refine wpHJ_take (v := ?vc2) 2 hFa rfl (by kernel_rfl) (fun _ _ _ h => h.elim) (Or.inl ⟨by rfl, ?yc2⟩) hS ?rc2
  case yc2 => (intro w' hS'; obtain ⟨s1, s2⟩ := hS'; go_simp; try rfl)
  simp only [Act.put, List.getElem_toArray, List.getElem_cons_succ, List.getElem_cons_zero, List.setIfInBounds_toArray, List.set_cons_zero, List.set_cons_succ]
  refine wpHJ_take (v := ?vc3) 3 hFa rfl (by kernel_rfl) (fun _ _ _ h => h.elim) (Or.inl ⟨by simp [Region.wanted, yielded], ?yc3⟩) hS ?rc3
  case yc3 => (intro w' hS'; obtain ⟨s1, s2⟩ := hS'; go_simp; try rfl)
  simp only [Act.put, List.getElem_toArray, List.getElem_cons_succ, List.getElem_cons_zero, List.setIfInBounds_toArray, List.set_cons_zero, List.set_cons_succ]
  refine wpHJ_take (v := ?vc4) 4 hFa rfl (by kernel_rfl) (fun _ _ _ h => h.elim) (Or.inl ⟨by simp [Region.wanted, yielded], ?yc4⟩) hS ?rc4
  case yc4 => (intro w' hS'; obtain ⟨s1, s2⟩ := hS'; go_simp; try rfl)
  simp only [Act.put, List.getElem_toArray, List.getElem_cons_succ, List.getElem_cons_zero, List.setIfInBounds_toArray, List.set_cons_zero, List.set_cons_succ]
  refine wpHJ_take (v := ?vc5) 5 hFa rfl (by kernel_rfl) (fun _ _ _ h => h.elim) (Or.inl ⟨by rfl, ?yc5⟩) hS ?rc5
  case yc5 => (intro w' hS'; obtain ⟨s1, s2⟩ := hS'; go_simp; try rfl)
  simp only [Act.put, List.getElem_toArray, List.getElem_cons_succ, List.getElem_cons_zero, List.setIfInBounds_toArray, List.set_cons_zero, List.set_cons_succ]
  refine wpHJ_take (v := ?vc6) 6 hFa rfl (by kernel_rfl) (fun _ _ _ h => h.elim) (Or.inl ⟨by rfl, ?yc6⟩) hS ?rc6
  case yc6 => (intro w' hS'; obtain ⟨s1, s2⟩ := hS'; go_simp; try rfl)
  simp only [Act.put, List.getElem_toArray, List.getElem_cons_succ, List.getElem_cons_zero, List.setIfInBounds_toArray, List.set_cons_zero, List.set_cons_succ]
  refine wpHJ_take (v := ?vc7) 7 hFa rfl (by kernel_rfl) (fun _ _ _ h => h.elim) (Or.inl ⟨by simp [Region.wanted, yielded], ?yc7⟩) hS ?rc7
  case yc7 => (intro w' hS'; obtain ⟨s1, s2⟩ := hS'; go_simp; try rfl)
  simp only [Act.put, List.getElem_toArray, List.getElem_cons_succ, List.getElem_cons_zero, List.setIfInBounds_toArray, List.set_cons_zero, List.set_cons_succ]
  refine wpHJ_take (v := ?vc8) 8 hFa rfl (by kernel_rfl) (fun _ _ _ h => h.elim) (Or.inl ⟨by simp [Region.wanted, yielded], ?yc8⟩) hS ?rc8
  case yc8 => (intro w' hS'; obtain ⟨s1, s2⟩ := hS'; go_simp; try rfl)
  simp only [Act.put, List.getElem_toArray, List.getElem_cons_succ, List.getElem_cons_zero, List.setIfInBounds_toArray, List.set_cons_zero, List.set_cons_succ]
  refine wpHJ_take (v := ?vc9) 9 hFa rfl (by kernel_rfl) (fun _ _ _ h => h.elim) (Or.inl ⟨by simp [Region.wanted, yielded], ?yc9⟩) hS ?rc9
  case yc9 => (intro w' hS'; obtain ⟨s1, s2⟩ := hS'; go_simp; try rfl)
  simp only [Act.put, List.getElem_toArray, List.getElem_cons_succ, List.getElem_cons_zero, List.setIfInBounds_toArray, List.set_cons_zero, List.set_cons_succ]
  refine wpHJ_take (v := ?vc10) 10 hFa rfl (by kernel_rfl) (fun _ _ _ h => h.elim) (Or.inl ⟨by simp [Region.wanted, yielded], ?yc10⟩) hS ?rc10
  case yc10 => (intro w' hS'; obtain ⟨s1, s2⟩ := hS'; go_simp; try rfl)
  simp only [Act.put, List.getElem_toArray, List.getElem_cons_succ, List.getElem_cons_zero, List.setIfInBounds_toArray, List.set_cons_zero, List.set_cons_succ]
  refine wpHJ_take (v := ?vc11) 11 hFa rfl (by kernel_rfl) (fun _ _ _ h => h.elim) (Or.inl ⟨by rfl, ?yc11⟩) hS ?rc11
  case yc11 => (intro w' hS'; obtain ⟨s1, s2⟩ := hS'; go_simp; try rfl)
  simp only [Act.put, List.getElem_toArray, List.getElem_cons_succ, List.getElem_cons_zero, List.setIfInBounds_toArray, List.set_cons_zero, List.set_cons_succ]
  refine wpHJ_take (v := ?vc12) 12 hFa rfl (by kernel_rfl) (fun _ _ _ h => h.elim) (Or.inl ⟨by rfl, ?yc12⟩) hS ?rc12
  case yc12 => (intro w' hS'; obtain ⟨s1, s2⟩ := hS'; go_simp; try rfl)
  simp only [Act.put, List.getElem_toArray, List.getElem_cons_succ, List.getElem_cons_zero, List.setIfInBounds_toArray, List.set_cons_zero, List.set_cons_succ]
  refine wpHJ_take (v := ?vc13) 13 hFa rfl (by kernel_rfl) (fun _ _ _ h => h.elim) (Or.inl ⟨by simp [Region.wanted, yielded], ?yc13⟩) hS ?rc13
  case yc13 => (intro w' hS'; obtain ⟨s1, s2⟩ := hS'; go_simp; try rfl)
  simp only [Act.put, List.getElem_toArray, List.getElem_cons_succ, List.getElem_cons_zero, List.setIfInBounds_toArray, List.set_cons_zero, List.set_cons_succ]
  refine wpHJ_take (v := ?vc14) 14 hFa rfl (by kernel_rfl) (fun _ _ _ h => h.elim) (Or.inl ⟨by simp [Region.wanted, yielded], ?yc14⟩) hS ?rc14
  case yc14 => (intro w' hS'; obtain ⟨s1, s2⟩ := hS'; go_simp; try rfl)
  simp only [Act.put, List.getElem_toArray, List.getElem_cons_succ, List.getElem_cons_zero, List.setIfInBounds_toArray, List.set_cons_zero, List.set_cons_succ]
  refine wpHJ_take (v := ?vc15) 15 hFa rfl (by kernel_rfl) (fun _ _ _ h => h.elim) (Or.inl ⟨by simp [Region.wanted, yielded], ?yc15⟩) hS ?rc15
  case yc15 => (intro w' hS'; obtain ⟨s1, s2⟩ := hS'; go_simp; try rfl)
  simp only [Act.put, List.getElem_toArray, List.getElem_cons_succ, List.getElem_cons_zero, List.setIfInBounds_toArray, List.set_cons_zero, List.set_cons_succ]
  refine wpHJ_take (v := ?vc16) 16 hFa rfl (by kernel_rfl) (fun _ _ _ h => h.elim) (Or.inl ⟨by simp [Region.wanted, yielded], ?yc16⟩) hS ?rc16
  case yc16 => (intro w' hS'; obtain ⟨s1, s2⟩ := hS'; go_simp; try rfl)
  simp only [Act.put, List.getElem_toArray, List.getElem_cons_succ, List.getElem_cons_zero, List.setIfInBounds_toArray, List.set_cons_zero, List.set_cons_succ]
  refine wpHJ_only 17 (by kernel_rfl) rfl ?_
  intro K hK
  rw [if_pos (by simp [Region.wanted, yielded])]
  go_simp
  (with_reducible refine (callsIn_wide.2 (HHP.out w7.drew)).mono ?_)
  rintro e w8 ⟨rfl, rfl⟩
  refine hK _ _ (.inr (.inr hS)) ?_
  clear hK K
  refine wpHJ_take (v := ?vc18) 18 hFa rfl (by kernel_rfl) (fun _ _ _ h => h.elim) (Or.inl ⟨by simp [Region.wanted, yielded], ?yc18⟩) hS ?rc18
  case yc18 => (intro w' hS'; obtain ⟨s1, s2⟩ := hS'; go_simp; try rfl)
  simp only [Act.put, List.getElem_toArray, List.getElem_cons_succ, List.getElem_cons_zero, List.setIfInBounds_toArray, List.set_cons_zero, List.set_cons_succ]
  refine wpHJ_take (v := ?vc19) 19 hFa rfl (by kernel_rfl) (fun _ _ _ h => h.elim) (Or.inl ⟨by rfl, ?yc19⟩) hS ?rc19
  case yc19 => (intro w' hS'; obtain ⟨s1, s2⟩ := hS'; go_simp; try rfl)
  simp only [Act.put, List.getElem_toArray, List.getElem_cons_succ, List.getElem_cons_zero, List.setIfInBounds_toArray, List.set_cons_zero, List.set_cons_succ]
  refine wpHJ_take (v := ?vc20) 20 hFa rfl (by kernel_rfl) (fun _ _ _ h => h.elim) (Or.inl ⟨by rfl, ?yc20⟩) hS ?rc20
  case yc20 => (intro w' hS'; obtain ⟨s1, s2⟩ := hS'; go_simp; try rfl)
  simp only [Act.put, List.getElem_toArray, List.getElem_cons_succ, List.getElem_cons_zero, List.setIfInBounds_toArray, List.set_cons_zero, List.set_cons_succ]
  refine wpHJ_take (v := ?vc21) 21 hFa rfl (by kernel_rfl) (fun _ _ _ h => h.elim) (Or.inl ⟨by simp [Region.wanted, yielded], ?yc21⟩) hS ?rc21
  case yc21 => (intro w' hS'; obtain ⟨s1, s2⟩ := hS'; go_simp; try rfl)
  simp only [Act.put, List.getElem_toArray, List.getElem_cons_succ, List.getElem_cons_zero, List.setIfInBounds_toArray, List.set_cons_zero, List.set_cons_succ]
  refine wpHJ_take (v := ?vc22) 22 hFa rfl (by kernel_rfl) (fun _ _ _ h => h.elim) (Or.inl ⟨by simp [Region.wanted, yielded], ?yc22⟩) hS ?rc22
  case yc22 => (intro w' hS'; obtain ⟨s1, s2⟩ := hS'; go_simp; try rfl)
  simp only [Act.put, List.getElem_toArray, List.getElem_cons_succ, List.getElem_cons_zero, List.setIfInBounds_toArray, List.set_cons_zero, List.set_cons_succ]
  refine wpHJ_take (v := ?vc23) 23 hFa rfl (by kernel_rfl) (fun _ _ _ h => h.elim) (Or.inl ⟨by simp [Region.wanted, yielded], ?yc23⟩) hS ?rc23
  case yc23 => (intro w' hS'; obtain ⟨s1, s2⟩ := hS'; go_simp; try rfl)
  simp only [Act.put, List.getElem_toArray, List.getElem_cons_succ, List.getElem_cons_zero, List.setIfInBounds_toArray, List.set_cons_zero, List.set_cons_succ]
  refine wpHJ_take (v := ?vc24) 24 hFa rfl (by kernel_rfl) (fun _ _ _ h => h.elim) (Or.inl ⟨by simp [Region.wanted, yielded], ?yc24⟩) hS ?rc24
  case yc24 => (intro w' hS'; obtain ⟨s1, s2⟩ := hS'; go_simp; try rfl)
  simp only [Act.put, List.getElem_toArray, List.getElem_cons_succ, List.getElem_cons_zero, List.setIfInBounds_toArray, List.set_cons_zero, List.set_cons_succ]
  refine wpHJ_take (v := ?vc25) 25 hFa rfl (by kernel_rfl) (fun _ _ _ h => h.elim) (Or.inl ⟨by simp [Region.wanted, yielded], ?yc25⟩) hS ?rc25
  case yc25 => (intro w' hS'; obtain ⟨s1, s2⟩ := hS'; go_simp; try rfl)
  simp only [Act.put, List.getElem_toArray, List.getElem_cons_succ, List.getElem_cons_zero, List.setIfInBounds_toArray, List.set_cons_zero, List.set_cons_succ]
  refine wpHJ_take (v := ?vc26) 26 hFa rfl (by kernel_rfl) (fun _ _ _ h => h.elim) (Or.inl ⟨by simp [Region.wanted, yielded], ?yc26⟩) hS ?rc26
  case yc26 => (intro w' hS'; obtain ⟨s1, s2⟩ := hS'; go_simp; try rfl)
  simp only [Act.put, List.getElem_toArray, List.getElem_cons_succ, List.getElem_cons_zero, List.setIfInBounds_toArray, List.set_cons_zero, List.set_cons_succ]
  refine wpHJ_take (v := ?vc27) 27 hFa rfl (by kernel_rfl) (fun _ _ _ h => h.elim) (Or.inl ⟨by simp [Region.wanted, yielded], ?yc27⟩) hS ?rc27
  case yc27 => (intro w' hS'; obtain ⟨s1, s2⟩ := hS'; go_simp; try rfl)
  simp only [Act.put, List.getElem_toArray, List.getElem_cons_succ, List.getElem_cons_zero, List.setIfInBounds_toArray, List.set_cons_zero, List.set_cons_succ]
  refine wpHJ_take (v := ?vc28) 28 hFa rfl (by kernel_rfl) (fun _ _ _ h => h.elim) (Or.inl ⟨by simp [Region.wanted, yielded], ?yc28⟩) hS ?rc28
  case yc28 => (intro w' hS'; obtain ⟨s1, s2⟩ := hS'; go_simp; try rfl)
  simp only [Act.put, List.getElem_toArray, List.getElem_cons_succ, List.getElem_cons_zero, List.setIfInBounds_toArray, List.set_cons_zero, List.set_cons_succ]
  refine wpHJ_take (v := ?vc29) 29 hFa rfl (by kernel_rfl) (fun _ _ _ h => h.elim) (Or.inl ⟨by simp [Region.wanted, yielded], ?yc29⟩) hS ?rc29
  case yc29 => (intro w' hS'; obtain ⟨s1, s2⟩ := hS'; go_simp; try rfl)
  simp only [Act.put, List.getElem_toArray, List.getElem_cons_succ, List.getElem_cons_zero, List.setIfInBounds_toArray, List.set_cons_zero, List.set_cons_succ]
  refine wpHJ_take (v := ?vc30) 30 hFa rfl (by kernel_rfl) (fun _ _ _ h => h.elim) (Or.inl ⟨by simp [Region.wanted, yielded], ?yc30⟩) hS ?rc30
  case yc30 => (intro w' hS'; obtain ⟨s1, s2⟩ := hS'; go_simp; try rfl)
  simp only [Act.put, List.getElem_toArray, List.getElem_cons_succ, List.getElem_cons_zero, List.setIfInBounds_toArray, List.set_cons_zero, List.set_cons_succ]
  refine wpHJ_take (v := ?vc31) 31 hFa rfl (by kernel_rfl) (fun _ _ _ h => h.elim) (Or.inl ⟨by simp [Region.wanted, yielded], ?yc31⟩) hS ?rc31
  case yc31 => (intro w' hS'; obtain ⟨s1, s2⟩ := hS'; go_simp; try rfl)
  simp only [Act.put, List.getElem_toArray, List.getElem_cons_succ, List.getElem_cons_zero, List.setIfInBounds_toArray, List.set_cons_zero, List.set_cons_succ]
  refine wpHJ_take (v := ?vc32) 32 hFa rfl (by kernel_rfl) (fun _ _ _ h => h.elim) (Or.inl ⟨by simp [Region.wanted, yielded], ?yc32⟩) hS ?rc32
  case yc32 => (intro w' hS'; obtain ⟨s1, s2⟩ := hS'; go_simp; try rfl)
  simp only [Act.put, List.getElem_toArray, List.getElem_cons_succ, List.getElem_cons_zero, List.setIfInBounds_toArray, List.set_cons_zero, List.set_cons_succ]
  refine wpHJ_take (v := ?vc33) 33 hFa rfl (by kernel_rfl) (fun _ _ _ h => h.elim) (Or.inl ⟨by simp [Region.wanted, yielded], ?yc33⟩) hS ?rc33
  case yc33 => (intro w' hS'; obtain ⟨s1, s2⟩ := hS'; go_simp; try rfl)
  simp only [Act.put, List.getElem_toArray, List.getElem_cons_succ, List.getElem_cons_zero, List.setIfInBounds_toArray, List.set_cons_zero, List.set_cons_succ]
  refine wpHJ_take (v := ?vc34) 34 hFa rfl (by kernel_rfl) (fun _ _ _ h => h.elim) (Or.inl ⟨by simp [Region.wanted, yielded], ?yc34⟩) hS ?rc34
  case yc34 => (intro w' hS'; obtain ⟨s1, s2⟩ := hS'; go_simp; try rfl)
  simp only [Act.put, List.getElem_toArray, List.getElem_cons_succ, List.getElem_cons_zero, List.setIfInBounds_toArray, List.set_cons_zero, List.set_cons_succ]
  refine wpHJ_only 35 (by kernel_rfl) rfl ?_
  intro K hK
  go_simp
  refine hK _ _ (.inr (.inr hS)) ?_
  clear hK K
  refine wpHJ_done (by kernel_rfl) ?_ _
  simp only [onlyN, Exit.then]
  clear hFa
  go_wp2_with fail
  have HB8 := hid (show Below w7.heap.size w7 w7.drew from below_self w7)
  generalize w7.drew = w8 at *
  clear hpos hnn hlen0 hS u0 u1 k0 k1 k2 hse hse2
  go_loopw [12] (fun iv W => ∃ k : Nat, k ≤ l1.length ∧ iv = .int .i64 (k : Int) ∧ Below w7.heap.size w7 W) (fun iv _ => l1.length - (intOf iv).toNat)
  case atStart => exact ⟨0, Nat.zero_le _, rfl, HB8.out⟩
  case round =>
    obtain ⟨k, hk, rfl, hb⟩ := hrel
    obtain ⟨wo, rfl⟩ : ∃ wo : World, wo = wr := ⟨_, rfl⟩
    have HBW := hid hb
    clear hb
    by_cases hlt : k < l1.length
    · have hcell := (H67.out.trans (HBW.out.mono H67.out.size) |>.cell (p := ⟨bl, ol + k, none⟩) HRL.out).trans (HCL.out k hlt)
      obtain ⟨ok1, ok2⟩ := HL6.out _ (List.getElem_mem hlt)
      generalize l1[k] = s at *
      have HCB := hid (fun c W => show Calls Tryd.prog 22 #[.string ⟨s.toArray⟩, .string ⟨#[c]⟩] W fun e w' => e = .returned (.bool (decide (0 ≤ Lib.indexByte s c))) ∧ w' = W from Tryd.strings_Contains_one ⟨s.toArray⟩ c W)
      have HC1 := hid (fun W => show Calls Tryd.prog 22 #[.string ⟨s.toArray⟩, .string ⟨#[10]⟩] W fun e w' => e = .returned (.bool false) ∧ w' = W from by
        have h := HCB.out 10 W
        rw [lineOk_byte ok1] at h; exact h)
      have HC2 := hid (fun W (hW : W.cell? ⟨2, 0, none⟩ = some (.int .i64 mx)) => show Calls Tryd.prog 22 #[.string ⟨s.toArray⟩, .string ⟨#[32, 32]⟩] W fun e w' => e = .returned (.bool false) ∧ w' = W from by
        have h := Tryd.strings_Contains ⟨s.toArray⟩ ⟨#[32, 32]⟩ mx W (by show s.toArray.size < 4294967281; simp; omega) hW
        have e : Lib.contains (⟨s.toArray⟩ : ByteArray).data.toList (⟨#[32, 32]⟩ : ByteArray).data.toList = false := by
          show decide (0 ≤ Lib.index s [32, 32]) = false
          rw [lineOk_index ok1]; rfl
        rw [e] at h; exact h)
      have HSF := hid (fun W => show Calls Tryd.prog 23 #[.string ⟨s.toArray⟩, .string ⟨#[32]⟩] W fun e w' => e = .returned (.bool false) ∧ w' = W from by
        have h := Tryd.strings_HasSuffix ⟨s.toArray⟩ ⟨#[32]⟩ W (by show s.toArray.size ≤ 9223372036854775807; simp; omega)
        have e : Lib.hasSuffix (⟨s.toArray⟩ : ByteArray).data.toList (⟨#[32]⟩ : ByteArray).data.toList = false := lineOk_suffix ok1
        rw [e] at h; exact h)
      have hmw := HB7.out.trans (HBW.out.mono HB7.out.size) |>.cell (p := ⟨2, 0, none⟩) (cell_size HMX.out) |>.trans HMX.out
      have HMW := hid hmw
      have hk63 : (k : Int) + 1 ≤ 9223372036854775807 := by omega
      clear HCB ok1 hmw
      go_wp2_with (first
        | (go_at_call 22; (first | with_reducible refine (HC1.out _).mono ?_ | with_reducible refine (HC2.out _ HMW.out).mono ?_); rintro e w9 ⟨rfl, rfl⟩)
        | (go_at_call 23; with_reducible refine (HSF.out _).mono ?_; rintro e w9 ⟨rfl, rfl⟩))
      go_roundw
      case rel => exact ⟨k + 1, by omega, by go_num, HBW.out⟩
      case measure => simp [intOf]; omega
    · obtain rfl : k = l1.length := by omega
      have HTW := hid (HT7.out.below HBW.out)
      go_wp2_with (go_at_call 11; with_reducible refine (awake_any _ HTW.out).mono ?_; rintro e w9 ⟨rfl, hb9⟩; have HB9 := hid hb9; clear hb9)
      go_ret
      exact ⟨rfl, HB7.out.trans ((HBW.out.trans (HB9.out.mono HBW.out.size)).mono HB7.out.size)⟩

set_option maxRecDepth 100000 in
set_option maxHeartbeats 4000000 in
theorem counts_2 (v : Vd) (pA pB : Option Addr) (cA cB : Nat) (lv ch : Int) (mx : Int) (w : World) (m n : Nat) (x : Vd) (hx : madeV v m n = x) (hk : x.kind = 2) (hv : VdOk v) (hvA : NLL (fun i => i < w.heap.size) w (.slice pA v.A.length cA) v.A) (hvB : NLL (fun i => i < w.heap.size) w (.slice pB v.B.length cB) v.B)
    (lvA : ∀ y ∈ v.A, y.length ≤ 17592186044415) (lvB : ∀ y ∈ v.B, y.length ≤ 17592186044415) (q : Nat) (hq : lv % 5 = (q : Int)) (hn : ch % 5 = (n : Int)) (hm : m = 1 + q) (hlv : -9223372036854775808 ≤ lv ∧ lv ≤ 9223372036854775807) (hch : -9223372036854775808 ≤ ch ∧ ch ≤ 9223372036854775807) (ht : Tabs w) (hmx : w.cell? ⟨2, 0, none⟩ = some (.int .i64 mx)) :
    Calls Tryd.prog 8 #[.agg #[.int .u8 (v.kind : Int), .int .u8 (v.reason : Int), .int .i64 v.level, .slice pA v.A.length cA, .slice pB v.B.length cB, .bool v.imp, .bool v.pol, .int .i64 v.line, .int .i64 v.col, .int .i64 v.err], .int .i64 lv, .int .i64 ch] w fun e w' => e = .returned (.bool true) ∧ Below w.heap.size w w' := by
  obtain ⟨W0, hW0⟩ : ∃ W, w.alloc (.cells #[.int .u8 (v.kind : Int), .int .u8 (v.reason : Int), .int .i64 v.level, .slice pA v.A.length cA, .slice pB v.B.length cB, .bool v.imp, .bool v.pol, .int .i64 v.line, .int .i64 v.col, .int .i64 v.err] 35) = W := ⟨_, rfl⟩
  have hb0 : Below w.heap.size w W0 := by rw [← hW0]; exact (Below.refl _ _).alloc (Nat.le_refl _) _
  have hz0 : W0.heap.size = w.heap.size + 1 := by rw [← hW0, World.size_alloc]
  have hc0 : W0.heap[w.heap.size]? = some (.cells #[.int .u8 (v.kind : Int), .int .u8 (v.reason : Int), .int .i64 v.level, .slice pA v.A.length cA, .slice pB v.B.length cB, .bool v.imp, .bool v.pol, .int .i64 v.line, .int .i64 v.col, .int .i64 v.err] 35 (0, 0)) := by rw [← hW0, heap_al, if_pos rfl]
  have up : ∀ i, i < w.heap.size → i < W0.heap.size ∧ W0.heap[i]? = w.heap[i]? := fun i hi => ⟨by omega, hb0.block i hi⟩
  have hv0 : VB W0 (w.heap.size) v pA cA pB cB := ⟨hc0, hvA.keep up, hvB.keep up⟩
  have HQ := hid (kmod_lit lv 5 q hlv (by omega) hq)
  have HN := hid (kmod_lit ch 5 n hch (by omega) hn)
  have hq4 : q ≤ 4 := by omega
  have hn4 : n ≤ 4 := by omega
  have em : 1 + (q : Int) = (m : Int) := by omega
  have hm1 : 1 ≤ m ∧ m ≤ 5 := by omega
  have hxo : VdOk x := by rw [← hx]; exact made_ok v m n hv (by omega)
  have hxm : Mv m n x := by rw [← hx]; exact made_mv v m n (by omega)
  have hrw : (∀ l ∈ x.A, l.length ≤ 20) ∧ ∀ l ∈ x.B, l.length ≤ 20 := by rw [← hx]; exact made_rows v m n
  obtain ⟨g1, g2, ⟨z, r, g3, g4, g5⟩, g6⟩ := counts hxm hxo hrw.1 hrw.2 (by omega) (by omega)
  obtain ⟨l1, hl1⟩ : ∃ l, (vlinesR x (namesL m) (namesL n)).1 = l := ⟨_, rfl⟩
  rw [hl1] at g2 g3 g6
  have HWD0 := hid (fun W (hW : Tabs W) => word_any x.kind x.reason W hxo.kind hxo.reason hW)
  unfold WordPost at HWD0
  rw [g1] at HWD0
  generalize (wordR x.kind x.reason).1 = wd at *
  have HWD := HWD0
  have g5' : decide (z = wd) = true := by rw [g5, hk]; decide
  have hN : l1.length = 1 := by rw [g2, hk]; simp
  have hse : ((⟨z.toArray⟩ : ByteArray).toList == (⟨wd.toArray⟩ : ByteArray).toList) = true := by rw [str_eqL, g5']
  have hse2 : (z == wd) = true := by rw [← g5']; by_cases h : z = wd <;> simp [h]
  have HHP := hid (fun W => show Calls Tryd.prog 21 #[.string ⟨z.toArray⟩, .string ⟨wd.toArray⟩] W fun e w' => e = .returned (.bool true) ∧ w' = W from by
    have h := Tryd.strings_HasPrefix ⟨z.toArray⟩ ⟨wd.toArray⟩ W
    have e : Lib.hasPrefix (⟨z.toArray⟩ : ByteArray).data.toList (⟨wd.toArray⟩ : ByteArray).data.toList = true := g4
    rw [e] at h; exact h)
  have HL6 := hid g6; have HL3 := hid g3
  have HMV := hid (made_boxV m n hv0 hv (by omega) (by omega) lvA lvB x hx)
  have HNM := hid (fun W => names_box m W (by omega))
  have HNC := hid (fun W => names_box n W (by omega))
  have HLX := hid (fun (W : World) (p1 : Option Addr) (c1 : Nat) (p2 : Option Addr) (c2 : Nat) (vl vc : Value) (h : VB W (w.heap.size) x p1 c1 p2 c2) => lines_boxV (vl := vl) (vc := vc) hxo hxm (by omega) l1 hl1 h)
  have k0 : ((x.kind : Int) == 0) = false := by rw [hk]; decide
  have k1 : ((x.kind : Int) == 1) = false := by rw [hk]; decide
  have k2 : ((x.kind : Int) == 2) = true := by rw [hk]; decide
  have HV0 := hid hv0; have HB0 := hid hb0; have HZ := hid hz0; have HWW := hid hW0; have HT := hid ht; have HMX := hid hmx; have HN1 := hid hN
  clear HWD0 hvA hvB hb0 hz0 hc0 hW0 up lvA lvB hv hxo hxm hrw hl1 hv0 hx hq hn ht hm hmx hk g1 g2 g3 g4 g5 g6 g5' hN
  go_enter Tryd.func8, Tryd.ntmps8
  go_wp2_with (go_at_call 13; (first | with_reducible refine (HQ.out _).mono ?_ | with_reducible refine (HN.out _).mono ?_); rintro e w1 ⟨rfl, rfl⟩)
  rw [HWW.out]
  refine HMV.out.mono ?_
  rintro e w2 ⟨hb2, p1, c1, p2, c2, rfl, hx1, hx2⟩
  have hv2 := HV0.out.step hb2
  have HV2 := hid hv2; have HX1 := hid hx1; have HX2 := hid hx2; have HB2 := hid (HB0.out.trans (hb2.mono HB0.out.size))
  have x0 : w2.cell? ⟨w.heap.size, 0, none⟩ = some (.int .u8 (v.kind : Int)) := (by rw [cell_of_row w2 _ 0 _ _ _ hv2.c]; rfl)
  have f0 : w2.frozen? ⟨w.heap.size, 0, none⟩ = false := frozen_of_row w2 _ 0 _ _ hv2.c
  have x1 : w2.cell? ⟨w.heap.size, 1, none⟩ = some (.int .u8 (v.reason : Int)) := (by rw [cell_of_row w2 _ 1 _ _ _ hv2.c]; rfl)
  have f1 : w2.frozen? ⟨w.heap.size, 1, none⟩ = false := frozen_of_row w2 _ 1 _ _ hv2.c
  have x2 : w2.cell? ⟨w.heap.size, 2, none⟩ = some (.int .i64 v.level) := (by rw [cell_of_row w2 _ 2 _ _ _ hv2.c]; rfl)
  have f2 : w2.frozen? ⟨w.heap.size, 2, none⟩ = false := frozen_of_row w2 _ 2 _ _ hv2.c
  have x3 : w2.cell? ⟨w.heap.size, 3, none⟩ = some (.slice pA v.A.length cA) := (by rw [cell_of_row w2 _ 3 _ _ _ hv2.c]; rfl)
  have f3 : w2.frozen? ⟨w.heap.size, 3, none⟩ = false := frozen_of_row w2 _ 3 _ _ hv2.c
  have x4 : w2.cell? ⟨w.heap.size, 4, none⟩ = some (.slice pB v.B.length cB) := (by rw [cell_of_row w2 _ 4 _ _ _ hv2.c]; rfl)
  have f4 : w2.frozen? ⟨w.heap.size, 4, none⟩ = false := frozen_of_row w2 _ 4 _ _ hv2.c
  have x5 : w2.cell? ⟨w.heap.size, 5, none⟩ = some (.bool v.imp) := (by rw [cell_of_row w2 _ 5 _ _ _ hv2.c]; rfl)
  have f5 : w2.frozen? ⟨w.heap.size, 5, none⟩ = false := frozen_of_row w2 _ 5 _ _ hv2.c
  have x6 : w2.cell? ⟨w.heap.size, 6, none⟩ = some (.bool v.pol) := (by rw [cell_of_row w2 _ 6 _ _ _ hv2.c]; rfl)
  have f6 : w2.frozen? ⟨w.heap.size, 6, none⟩ = false := frozen_of_row w2 _ 6 _ _ hv2.c
  have x7 : w2.cell? ⟨w.heap.size, 7, none⟩ = some (.int .i64 v.line) := (by rw [cell_of_row w2 _ 7 _ _ _ hv2.c]; rfl)
  have f7 : w2.frozen? ⟨w.heap.size, 7, none⟩ = false := frozen_of_row w2 _ 7 _ _ hv2.c
  have x8 : w2.cell? ⟨w.heap.size, 8, none⟩ = some (.int .i64 v.col) := (by rw [cell_of_row w2 _ 8 _ _ _ hv2.c]; rfl)
  have f8 : w2.frozen? ⟨w.heap.size, 8, none⟩ = false := frozen_of_row w2 _ 8 _ _ hv2.c
  have x9 : w2.cell? ⟨w.heap.size, 9, none⟩ = some (.int .i64 v.err) := (by rw [cell_of_row w2 _ 9 _ _ _ hv2.c]; rfl)
  have f9 : w2.frozen? ⟨w.heap.size, 9, none⟩ = false := frozen_of_row w2 _ 9 _ _ hv2.c
  clear hb2 hx1 hx2 hv2
  go_wp2_with (obtain ⟨w5, hw5⟩ : ∃ W, ((((((((((w2).setCell ⟨w.heap.size, 0, none⟩ (.int .u8 (x.kind : Int))).setCell ⟨w.heap.size, 1, none⟩ (.int .u8 (x.reason : Int))).setCell ⟨w.heap.size, 2, none⟩ (.int .i64 x.level)).setCell ⟨w.heap.size, 3, none⟩ (.slice p1 x.A.length c1)).setCell ⟨w.heap.size, 4, none⟩ (.slice p2 x.B.length c2)).setCell ⟨w.heap.size, 5, none⟩ (.bool x.imp)).setCell ⟨w.heap.size, 6, none⟩ (.bool x.pol)).setCell ⟨w.heap.size, 7, none⟩ (.int .i64 x.line)).setCell ⟨w.heap.size, 8, none⟩ (.int .i64 x.col)).setCell ⟨w.heap.size, 9, none⟩ (.int .i64 x.err) = W := ⟨_, rfl⟩; rw [hw5]; obtain ⟨hx5, hk5, hs5, hb5⟩ := HV2.out.of_set (x := x) (p1 := p1) (c1 := c1) (p2 := p2) (c2 := c2) HX1.out HX2.out (fun i hi => ⟨by have := HZ.out; omega, hi.2⟩) (fun i hi => ⟨by have := HZ.out; omega, hi.2⟩) hw5; have HX5 := hid hx5; have HB5 := hid (hb5 HB2.out (Nat.le_refl _)); have HT5 := hid (HT.out.below HB5.out); clear x0 f0 x1 f1 x2 f2 x3 f3 x4 f4 x5 f5 x6 f6 x7 f7 x8 f8 x9 f9 hw5 hx5 hk5 hs5 hb5)
  have hS : (Sx (w.heap.size) x p1 c1 p2 c2) w5.drew := (HX5.out.step (below_self _)).sx
  have hFa : ∀ f, Fence.wide.fn f := fun _ => trivial
  refine (wpIn_wide (n := 9)).1 ?_
  refine wpIn_onlyN ?_
  refine wpIn_region_HJ (Sx (w.heap.size) x p1 c1 p2 c2) 10 (by kernel_rfl) ?_
  simp only [List.size_toArray, List.length_cons, List.length_nil, Nat.reduceAdd]
  refine wpHJ_take (v := ?vb0) 0 hFa rfl (by kernel_rfl) (fun _ _ _ h => h.elim) (Or.inl ⟨by rfl, ?yb0⟩) hS ?rb0
  case yb0 => (intro w' hS'; obtain ⟨s0, s1, s2, s3, s4, s5, s6, s7, s8, s9⟩ := hS'; go_simp; try rfl)
  simp only [Act.put, List.getElem_toArray, List.getElem_cons_succ, List.getElem_cons_zero, List.setIfInBounds_toArray, List.set_cons_zero, List.set_cons_succ]
  refine wpHJ_pure (v := ?vb1) 1 hFa rfl (by kernel_rfl) (fun _ _ _ h => h.elim) (Or.inl ⟨by rfl, ?yb1⟩) (.inr hS) ?rb1
  case yb1 => (intro w' _; go_simp; try rfl)
  simp only [Act.put, List.getElem_toArray, List.getElem_cons_succ, List.getElem_cons_zero, List.setIfInBounds_toArray, List.set_cons_zero, List.set_cons_succ]
  refine wpHJ_pure (v := ?vb3) 3 hFa rfl (by kernel_rfl) (fun _ _ _ h => h.elim) (Or.inl ⟨by rfl, ?yb3⟩) (.inr hS) ?rb3
  case yb3 => (intro w' _; go_simp; try rfl)
  simp only [Act.put, List.getElem_toArray, List.getElem_cons_succ, List.getElem_cons_zero, List.setIfInBounds_toArray, List.set_cons_zero, List.set_cons_succ]
  clear hS
  have hbd := below_self w5
  have hvd := HX5.out.step hbd
  have htd := HT5.out.below hbd
  generalize w5.drew = wd3 at *
  have HX5d := hid hvd; have HBd := hid hbd; have HTd := hid htd
  clear hvd hbd htd
  refine wpHJ_only 2 (by kernel_rfl) rfl ?_
  intro K hK
  go_simp
  (with_reducible refine (callsIn_wide.2 (HNM.out wd3)).mono ?_)
  rintro e wd3a ⟨hba, pm, cm, rfl, hsm⟩
  have HBA := hid hba; have HSM := hid hsm
  clear hba hsm
  refine hK _ _ (.inr (.inr (HX5d.out.step HBA.out).sx)) ?_
  clear hK K
  refine wpHJ_only 4 (by kernel_rfl) rfl ?_
  intro K hK
  go_simp
  (with_reducible refine (callsIn_wide.2 (HNC.out wd3a)).mono ?_)
  rintro e wd3b ⟨hbb, pn, cn, rfl, hsn⟩
  have HBB := hid hbb; have HSN := hid hsn
  clear hbb hsn
  refine hK _ _ (.inr (.inr ((HX5d.out.step HBA.out).step HBB.out).sx)) ?_
  clear hK K
  refine wpHJ_only 5 (by kernel_rfl) rfl ?_
  intro K hK
  go_simp
  (with_reducible refine (callsIn_wide.2 (HLX.out _ _ _ _ _ _ _ ((HX5d.out.step HBA.out).step HBB.out) (HSM.out.keep fun i hi => ⟨Nat.lt_of_lt_of_le hi HBB.out.size, HBB.out.block i hi⟩) HSN.out ((HTd.out.below HBA.out).below HBB.out))).mono ?_)
  rintro e w6 ⟨hbc, pl1, cl1, rfl, hsl⟩
  have hbo := HBd.out.trans ((HBA.out.trans (HBB.out.mono HBA.out.size)).trans (hbc.mono (Nat.le_trans HBA.out.size HBB.out.size)) |>.mono HBd.out.size)
  have HBO := hid hbo; have HSL1 := hid hsl
  clear hbc hsl hbo
  refine hK _ _ (.inr (.inr (HX5.out.step HBO.out).sx)) ?_
  clear hK K
  refine wpHJ_pure (v := ?vb6) 6 hFa rfl (by kernel_rfl) (fun _ _ _ h => h.elim) (Or.inl ⟨by rfl, ?yb6⟩) (.inr (HX5.out.step HBO.out).sx) ?rb6
  case yb6 => (intro w' _; go_simp; try rfl)
  simp only [Act.put, List.getElem_toArray, List.getElem_cons_succ, List.getElem_cons_zero, List.setIfInBounds_toArray, List.set_cons_zero, List.set_cons_succ]
  refine wpHJ_pure (v := ?vb7) 7 hFa rfl (by kernel_rfl) (fun _ _ _ h => h.elim) (Or.inl ⟨by rfl, ?yb7⟩) (.inr (HX5.out.step HBO.out).sx) ?rb7
  case yb7 => (intro w' _; go_simp; try rfl)
  simp only [Act.put, List.getElem_toArray, List.getElem_cons_succ, List.getElem_cons_zero, List.setIfInBounds_toArray, List.set_cons_zero, List.set_cons_succ]
  refine wpHJ_pure (v := ?vb8) 8 hFa rfl (by kernel_rfl) (fun _ _ _ h => h.elim) (Or.inl ⟨by rfl, ?yb8⟩) (.inr (HX5.out.step HBO.out).sx) ?rb8
  case yb8 => (intro w' _; go_simp; try rfl)
  simp only [Act.put, List.getElem_toArray, List.getElem_cons_succ, List.getElem_cons_zero, List.setIfInBounds_toArray, List.set_cons_zero, List.set_cons_succ]
  refine wpHJ_pure (v := ?vb9) 9 hFa rfl (by kernel_rfl) (fun _ _ _ h => h.elim) (Or.inl ⟨by rfl, ?yb9⟩) (.inr (HX5.out.step HBO.out).sx) ?rb9
  case yb9 => (intro w' _; go_simp; try rfl)
  simp only [Act.put, List.getElem_toArray, List.getElem_cons_succ, List.getElem_cons_zero, List.setIfInBounds_toArray, List.set_cons_zero, List.set_cons_succ]
  refine wpHJ_only 10 (by kernel_rfl) rfl ?_
  intro K hK
  go_simp
  refine hK _ _ (.inl rfl) ?_
  clear hK K
  refine wpHJ_done (by kernel_rfl) ?_ _
  simp only [onlyN, Exit.then]
  clear hFa
  have HX6 := hid (HX5.out.step HBO.out)
  have HT6 := hid (HT5.out.below HBO.out)
  have HB6 := hid (HB5.out.trans (HBO.out.mono HB5.out.size))
  clear HBO HBA HBB HBd HX5d HTd
  have y0 : w6.cell? ⟨w.heap.size, 0, none⟩ = some (.int .u8 (x.kind : Int)) := by rw [cell_of_row w6 _ 0 _ _ _ HX6.out.c]; rfl
  have y1 : w6.cell? ⟨w.heap.size, 1, none⟩ = some (.int .u8 (x.reason : Int)) := by rw [cell_of_row w6 _ 1 _ _ _ HX6.out.c]; rfl
  obtain ⟨pl, cl, el, _, _, _, hrl⟩ := HSL1.out.op
  have epl : pl1 = pl := by injection el
  subst epl
  clear el
  obtain ⟨bl, ol, rfl, hRl, hcl⟩ := hrl.atS 0 (by rw [HN1.out]; omega)
  have hz1 : w6.cell? ⟨bl, ol, none⟩ = some (.string ⟨z.toArray⟩) := by
    have h := hcl 0 (by rw [HN1.out]; omega)
    have e : l1[0]'(by rw [HN1.out]; omega) = z := by have := HL3.out; simp [this]
    rw [e] at h; exact h
  have HCL := hid hcl; have HRL := hid hRl; have HZ1 := hid hz1
  have hnn : (l1.length : Int) = 1 := by rw [HN1.out]; omega
  have hlen0 : ¬ l1.length = 0 := by rw [HN1.out]; omega
  have hpos : (0 : Int) < 1 + 2 * (n : Int) := by omega
  clear hrl hcl hRl hz1
  go_wp2_with (go_at_call 9; refine (HWD.out _ HT6.out).mono ?_; rintro e w7 ⟨rfl, hb7⟩; have hx7 := HX6.out.step hb7; have HX7 := hid hx7; have HT7 := hid (HT6.out.below hb7); have HB7 := hid (HB6.out.trans (hb7.mono HB6.out.size)); have H67 := hid hb7; have u0 : w7.cell? ⟨w.heap.size, 0, none⟩ = some (.int .u8 (x.kind : Int)) := (by rw [cell_of_row w7 _ 0 _ _ _ hx7.c]; rfl); have u1 : w7.cell? ⟨bl, ol, none⟩ = some (.string ⟨z.toArray⟩) := (hb7.cell (p := ⟨bl, ol, none⟩) HRL.out).trans HZ1.out; clear hx7 hb7 y0 y1)
  have hS : (fun W : World => W.cell? ⟨bl, ol, none⟩ = some (.string ⟨z.toArray⟩) ∧ W.cell? ⟨w.heap.size, 0, none⟩ = some (.int .u8 (x.kind : Int))) w7.drew := ⟨u1, u0⟩
  have hFa : ∀ f, Fence.wide.fn f := fun _ => trivial
  refine (wpIn_wide (n := 9)).1 ?_
  refine wpIn_onlyN ?_
  refine wpIn_region_HJ (fun W : World => W.cell? ⟨bl, ol, none⟩ = some (.string ⟨z.toArray⟩) ∧ W.cell? ⟨w.heap.size, 0, none⟩ = some (.int .u8 (x.kind : Int))) 36 (by kernel_rfl) ?_
  simp only [List.size_toArray, List.length_cons, List.length_nil, Nat.reduceAdd]
  refine wpHJ_take (v := ?vc0) 0 hFa rfl (by kernel_rfl) (fun _ _ _ h => h.elim) (Or.inl ⟨by rfl, ?yc0⟩) hS ?rc0
  case yc0 => (intro w' hS'; obtain ⟨s1, s2⟩ := hS'; go_simp; try rfl)
  simp only [Act.put, List.getElem_toArray, List.getElem_cons_succ, List.getElem_cons_zero, List.setIfInBounds_toArray, List.set_cons_zero, List.set_cons_succ]
  refine wpHJ_take (v := ?vc1) 1 hFa rfl (by kernel_rfl) (fun _ _ _ h => h.elim) (Or.inl ⟨by rfl, ?yc1⟩) hS ?rc1
  case yc1 => (intro w' hS'; obtain ⟨s1, s2⟩ := hS'; go_simp; try rfl)
  simp only [Act.put, List.getElem_toArray, List.getElem_cons_succ, List.getElem_cons_zero, List.setIfInBounds_toArray, List.set_cons_zero, List.set_cons_succ]
  refine wpHJ_take (v := ?vc2) 2 hFa rfl (by kernel_rfl) (fun _ _ _ h => h.elim) (Or.inl ⟨by rfl, ?yc2⟩) hS ?rc2
  case yc2 => (intro w' hS'; obtain ⟨s1, s2⟩ := hS'; go_simp; try rfl)
  simp only [Act.put, List.getElem_toArray, List.getElem_cons_succ, List.getElem_cons_zero, List.setIfInBounds_toArray, List.set_cons_zero, List.set_cons_succ]
  refine wpHJ_take (v := ?vc3) 3 hFa rfl (by kernel_rfl) (fun _ _ _ h => h.elim) (Or.inl ⟨by simp [Region.wanted, yielded], ?yc3⟩) hS ?rc3
  case yc3 => (intro w' hS'; obtain ⟨s1, s2⟩ := hS'; go_simp; try rfl)
  simp only [Act.put, List.getElem_toArray, List.getElem_cons_succ, List.getElem_cons_zero, List.setIfInBounds_toArray, List.set_cons_zero, List.set_cons_succ]
  refine wpHJ_take (v := ?vc4) 4 hFa rfl (by kernel_rfl) (fun _ _ _ h => h.elim) (Or.inl ⟨by simp [Region.wanted, yielded], ?yc4⟩) hS ?rc4
  case yc4 => (intro w' hS'; obtain ⟨s1, s2⟩ := hS'; go_simp; try rfl)
  simp only [Act.put, List.getElem_toArray, List.getElem_cons_succ, List.getElem_cons_zero, List.setIfInBounds_toArray, List.set_cons_zero, List.set_cons_succ]
  refine wpHJ_take (v := ?vc5) 5 hFa rfl (by kernel_rfl) (fun _ _ _ h => h.elim) (Or.inl ⟨by rfl, ?yc5⟩) hS ?rc5
  case yc5 => (intro w' hS'; obtain ⟨s1, s2⟩ := hS'; go_simp; try rfl)
  simp only [Act.put, List.getElem_toArray, List.getElem_cons_succ, List.getElem_cons_zero, List.setIfInBounds_toArray, List.set_cons_zero, List.set_cons_succ]
  refine wpHJ_take (v := ?vc6) 6 hFa rfl (by kernel_rfl) (fun _ _ _ h => h.elim) (Or.inl ⟨by rfl, ?yc6⟩) hS ?rc6
  case yc6 => (intro w' hS'; obtain ⟨s1, s2⟩ := hS'; go_simp; try rfl)
  simp only [Act.put, List.getElem_toArray, List.getElem_cons_succ, List.getElem_cons_zero, List.setIfInBounds_toArray, List.set_cons_zero, List.set_cons_succ]
  refine wpHJ_take (v := ?vc7) 7 hFa rfl (by kernel_rfl) (fun _ _ _ h => h.elim) (Or.inl ⟨by simp [Region.wanted, yielded], ?yc7⟩) hS ?rc7
  case yc7 => (intro w' hS'; obtain ⟨s1, s2⟩ := hS'; go_simp; try rfl)
  simp only [Act.put, List.getElem_toArray, List.getElem_cons_succ, List.getElem_cons_zero, List.setIfInBounds_toArray, List.set_cons_zero, List.set_cons_succ]
  refine wpHJ_take (v := ?vc8) 8 hFa rfl (by kernel_rfl) (fun _ _ _ h => h.elim) (Or.inl ⟨by simp [Region.wanted, yielded], ?yc8⟩) hS ?rc8
  case yc8 => (intro w' hS'; obtain ⟨s1, s2⟩ := hS'; go_simp; try rfl)
  simp only [Act.put, List.getElem_toArray, List.getElem_cons_succ, List.getElem_cons_zero, List.setIfInBounds_toArray, List.set_cons_zero, List.set_cons_succ]
  refine wpHJ_take (v := ?vc9) 9 hFa rfl (by kernel_rfl) (fun _ _ _ h => h.elim) (Or.inl ⟨by simp [Region.wanted, yielded], ?yc9⟩) hS ?rc9
  case yc9 => (intro w' hS'; obtain ⟨s1, s2⟩ := hS'; go_simp; try rfl)
  simp only [Act.put, List.getElem_toArray, List.getElem_cons_succ, List.getElem_cons_zero, List.setIfInBounds_toArray, List.set_cons_zero, List.set_cons_succ]
  refine wpHJ_take (v := ?vc10) 10 hFa rfl (by kernel_rfl) (fun _ _ _ h => h.elim) (Or.inl ⟨by simp [Region.wanted, yielded], ?yc10⟩) hS ?rc10
  case yc10 => (intro w' hS'; obtain ⟨s1, s2⟩ := hS'; go_simp; try rfl)
  simp only [Act.put, List.getElem_toArray, List.getElem_cons_succ, List.getElem_cons_zero, List.setIfInBounds_toArray, List.set_cons_zero, List.set_cons_succ]
  refine wpHJ_take (v := ?vc11) 11 hFa rfl (by kernel_rfl) (fun _ _ _ h => h.elim) (Or.inl ⟨by rfl, ?yc11⟩) hS ?rc11
  case yc11 => (intro w' hS'; obtain ⟨s1, s2⟩ := hS'; go_simp; try rfl)
  simp only [Act.put, List.getElem_toArray, List.getElem_cons_succ, List.getElem_cons_zero, List.setIfInBounds_toArray, List.set_cons_zero, List.set_cons_succ]
  refine wpHJ_take (v := ?vc12) 12 hFa rfl (by kernel_rfl) (fun _ _ _ h => h.elim) (Or.inl ⟨by rfl, ?yc12⟩) hS ?rc12
  case yc12 => (intro w' hS'; obtain ⟨s1, s2⟩ := hS'; go_simp; try rfl)
  simp only [Act.put, List.getElem_toArray, List.getElem_cons_succ, List.getElem_cons_zero, List.setIfInBounds_toArray, List.set_cons_zero, List.set_cons_succ]
  refine wpHJ_take (v := ?vc13) 13 hFa rfl (by kernel_rfl) (fun _ _ _ h => h.elim) (Or.inl ⟨by simp [Region.wanted, yielded], ?yc13⟩) hS ?rc13
  case yc13 => (intro w' hS'; obtain ⟨s1, s2⟩ := hS'; go_simp; try rfl)
  simp only [Act.put, List.getElem_toArray, List.getElem_cons_succ, List.getElem_cons_zero, List.setIfInBounds_toArray, List.set_cons_zero, List.set_cons_succ]
  refine wpHJ_take (v := ?vc14) 14 hFa rfl (by kernel_rfl) (fun _ _ _ h => h.elim) (Or.inl ⟨by simp [Region.wanted, yielded], ?yc14⟩) hS ?rc14
  case yc14 => (intro w' hS'; obtain ⟨s1, s2⟩ := hS'; go_simp; try rfl)
  simp only [Act.put, List.getElem_toArray, List.getElem_cons_succ, List.getElem_cons_zero, List.setIfInBounds_toArray, List.set_cons_zero, List.set_cons_succ]
  refine wpHJ_take (v := ?vc15) 15 hFa rfl (by kernel_rfl) (fun _ _ _ h => h.elim) (Or.inl ⟨by simp [Region.wanted, yielded], ?yc15⟩) hS ?rc15
  case yc15 => (intro w' hS'; obtain ⟨s1, s2⟩ := hS'; go_simp; try rfl)
  simp only [Act.put, List.getElem_toArray, List.getElem_cons_succ, List.getElem_cons_zero, List.setIfInBounds_toArray, List.set_cons_zero, List.set_cons_succ]
  refine wpHJ_take (v := ?vc16) 16 hFa rfl (by kernel_rfl) (fun _ _ _ h => h.elim) (Or.inl ⟨by simp [Region.wanted, yielded], ?yc16⟩) hS ?rc16
  case yc16 => (intro w' hS'; obtain ⟨s1, s2⟩ := hS'; go_simp; try rfl)
  simp only [Act.put, List.getElem_toArray, List.getElem_cons_succ, List.getElem_cons_zero, List.setIfInBounds_toArray, List.set_cons_zero, List.set_cons_succ]
  refine wpHJ_only 17 (by kernel_rfl) rfl ?_
  intro K hK
  rw [if_pos (by simp [Region.wanted, yielded])]
  go_simp
  (with_reducible refine (callsIn_wide.2 (HHP.out w7.drew)).mono ?_)
  rintro e w8 ⟨rfl, rfl⟩
  refine hK _ _ (.inr (.inr hS)) ?_
  clear hK K
  refine wpHJ_take (v := ?vc18) 18 hFa rfl (by kernel_rfl) (fun _ _ _ h => h.elim) (Or.inl ⟨by simp [Region.wanted, yielded], ?yc18⟩) hS ?rc18
  case yc18 => (intro w' hS'; obtain ⟨s1, s2⟩ := hS'; go_simp; try rfl)
  simp only [Act.put, List.getElem_toArray, List.getElem_cons_succ, List.getElem_cons_zero, List.setIfInBounds_toArray, List.set_cons_zero, List.set_cons_succ]
  refine wpHJ_take (v := ?vc19) 19 hFa rfl (by kernel_rfl) (fun _ _ _ h => h.elim) (Or.inl ⟨by rfl, ?yc19⟩) hS ?rc19
  case yc19 => (intro w' hS'; obtain ⟨s1, s2⟩ := hS'; go_simp; try rfl)
  simp only [Act.put, List.getElem_toArray, List.getElem_cons_succ, List.getElem_cons_zero, List.setIfInBounds_toArray, List.set_cons_zero, List.set_cons_succ]
  refine wpHJ_take (v := ?vc20) 20 hFa rfl (by kernel_rfl) (fun _ _ _ h => h.elim) (Or.inl ⟨by rfl, ?yc20⟩) hS ?rc20
  case yc20 => (intro w' hS'; obtain ⟨s1, s2⟩ := hS'; go_simp; try rfl)
  simp only [Act.put, List.getElem_toArray, List.getElem_cons_succ, List.getElem_cons_zero, List.setIfInBounds_toArray, List.set_cons_zero, List.set_cons_succ]
  refine wpHJ_take (v := ?vc21) 21 hFa rfl (by kernel_rfl) (fun _ _ _ h => h.elim) (Or.inl ⟨by simp [Region.wanted, yielded], ?yc21⟩) hS ?rc21
  case yc21 => (intro w' hS'; obtain ⟨s1, s2⟩ := hS'; go_simp; try rfl)
  simp only [Act.put, List.getElem_toArray, List.getElem_cons_succ, List.getElem_cons_zero, List.setIfInBounds_toArray, List.set_cons_zero, List.set_cons_succ]
  refine wpHJ_take (v := ?vc22) 22 hFa rfl (by kernel_rfl) (fun _ _ _ h => h.elim) (Or.inl ⟨by simp [Region.wanted, yielded], ?yc22⟩) hS ?rc22
  case yc22 => (intro w' hS'; obtain ⟨s1, s2⟩ := hS'; go_simp; try rfl)
  simp only [Act.put, List.getElem_toArray, List.getElem_cons_succ, List.getElem_cons_zero, List.setIfInBounds_toArray, List.set_cons_zero, List.set_cons_succ]
  refine wpHJ_take (v := ?vc23) 23 hFa rfl (by kernel_rfl) (fun _ _ _ h => h.elim) (Or.inl ⟨by simp [Region.wanted, yielded], ?yc23⟩) hS ?rc23
  case yc23 => (intro w' hS'; obtain ⟨s1, s2⟩ := hS'; go_simp; try rfl)
  simp only [Act.put, List.getElem_toArray, List.getElem_cons_succ, List.getElem_cons_zero, List.setIfInBounds_toArray, List.set_cons_zero, List.set_cons_succ]
  refine wpHJ_take (v := ?vc24) 24 hFa rfl (by kernel_rfl) (fun _ _ _ h => h.elim) (Or.inl ⟨by simp [Region.wanted, yielded], ?yc24⟩) hS ?rc24
  case yc24 => (intro w' hS'; obtain ⟨s1, s2⟩ := hS'; go_simp; try rfl)
  simp only [Act.put, List.getElem_toArray, List.getElem_cons_succ, List.getElem_cons_zero, List.setIfInBounds_toArray, List.set_cons_zero, List.set_cons_succ]
  refine wpHJ_take (v := ?vc25) 25 hFa rfl (by kernel_rfl) (fun _ _ _ h => h.elim) (Or.inl ⟨by simp [Region.wanted, yielded], ?yc25⟩) hS ?rc25
  case yc25 => (intro w' hS'; obtain ⟨s1, s2⟩ := hS'; go_simp; try rfl)
  simp only [Act.put, List.getElem_toArray, List.getElem_cons_succ, List.getElem_cons_zero, List.setIfInBounds_toArray, List.set_cons_zero, List.set_cons_succ]
  refine wpHJ_take (v := ?vc26) 26 hFa rfl (by kernel_rfl) (fun _ _ _ h => h.elim) (Or.inl ⟨by simp [Region.wanted, yielded], ?yc26⟩) hS ?rc26
  case yc26 => (intro w' hS'; obtain ⟨s1, s2⟩ := hS'; go_simp; try rfl)
  simp only [Act.put, List.getElem_toArray, List.getElem_cons_succ, List.getElem_cons_zero, List.setIfInBounds_toArray, List.set_cons_zero, List.set_cons_succ]
  refine wpHJ_take (v := ?vc27) 27 hFa rfl (by kernel_rfl) (fun _ _ _ h => h.elim) (Or.inl ⟨by simp [Region.wanted, yielded], ?yc27⟩) hS ?rc27
  case yc27 => (intro w' hS'; obtain ⟨s1, s2⟩ := hS'; go_simp; try rfl)
  simp only [Act.put, List.getElem_toArray, List.getElem_cons_succ, List.getElem_cons_zero, List.setIfInBounds_toArray, List.set_cons_zero, List.set_cons_succ]
  refine wpHJ_take (v := ?vc28) 28 hFa rfl (by kernel_rfl) (fun _ _ _ h => h.elim) (Or.inl ⟨by simp [Region.wanted, yielded], ?yc28⟩) hS ?rc28
  case yc28 => (intro w' hS'; obtain ⟨s1, s2⟩ := hS'; go_simp; try rfl)
  simp only [Act.put, List.getElem_toArray, List.getElem_cons_succ, List.getElem_cons_zero, List.setIfInBounds_toArray, List.set_cons_zero, List.set_cons_succ]
  refine wpHJ_take (v := ?vc29) 29 hFa rfl (by kernel_rfl) (fun _ _ _ h => h.elim) (Or.inl ⟨by simp [Region.wanted, yielded], ?yc29⟩) hS ?rc29
  case yc29 => (intro w' hS'; obtain ⟨s1, s2⟩ := hS'; go_simp; try rfl)
  simp only [Act.put, List.getElem_toArray, List.getElem_cons_succ, List.getElem_cons_zero, List.setIfInBounds_toArray, List.set_cons_zero, List.set_cons_succ]
  refine wpHJ_take (v := ?vc30) 30 hFa rfl (by kernel_rfl) (fun _ _ _ h => h.elim) (Or.inl ⟨by simp [Region.wanted, yielded], ?yc30⟩) hS ?rc30
  case yc30 => (intro w' hS'; obtain ⟨s1, s2⟩ := hS'; go_simp; try rfl)
  simp only [Act.put, List.getElem_toArray, List.getElem_cons_succ, List.getElem_cons_zero, List.setIfInBounds_toArray, List.set_cons_zero, List.set_cons_succ]
  refine wpHJ_take (v := ?vc31) 31 hFa rfl (by kernel_rfl) (fun _ _ _ h => h.elim) (Or.inl ⟨by simp [Region.wanted, yielded], ?yc31⟩) hS ?rc31
  case yc31 => (intro w' hS'; obtain ⟨s1, s2⟩ := hS'; go_simp; try rfl)
  simp only [Act.put, List.getElem_toArray, List.getElem_cons_succ, List.getElem_cons_zero, List.setIfInBounds_toArray, List.set_cons_zero, List.set_cons_succ]
  refine wpHJ_take (v := ?vc32) 32 hFa rfl (by kernel_rfl) (fun _ _ _ h => h.elim) (Or.inl ⟨by simp [Region.wanted, yielded], ?yc32⟩) hS ?rc32
  case yc32 => (intro w' hS'; obtain ⟨s1, s2⟩ := hS'; go_simp; try rfl)
  simp only [Act.put, List.getElem_toArray, List.getElem_cons_succ, List.getElem_cons_zero, List.setIfInBounds_toArray, List.set_cons_zero, List.set_cons_succ]
  refine wpHJ_take (v := ?vc33) 33 hFa rfl (by kernel_rfl) (fun _ _ _ h => h.elim) (Or.inl ⟨by simp [Region.wanted, yielded], ?yc33⟩) hS ?rc33
  case yc33 => (intro w' hS'; obtain ⟨s1, s2⟩ := hS'; go_simp; try rfl)
  simp only [Act.put, List.getElem_toArray, List.getElem_cons_succ, List.getElem_cons_zero, List.setIfInBounds_toArray, List.set_cons_zero, List.set_cons_succ]
  refine wpHJ_take (v := ?vc34) 34 hFa rfl (by kernel_rfl) (fun _ _ _ h => h.elim) (Or.inl ⟨by simp [Region.wanted, yielded], ?yc34⟩) hS ?rc34
  case yc34 => (intro w' hS'; obtain ⟨s1, s2⟩ := hS'; go_simp; try rfl)
  simp only [Act.put, List.getElem_toArray, List.getElem_cons_succ, List.getElem_cons_zero, List.setIfInBounds_toArray, List.set_cons_zero, List.set_cons_succ]
  refine wpHJ_only 35 (by kernel_rfl) rfl ?_
  intro K hK
  go_simp
  refine hK _ _ (.inr (.inr hS)) ?_
  clear hK K
  refine wpHJ_done (by kernel_rfl) ?_ _
  simp only [onlyN, Exit.then]
  clear hFa
  go_wp2_with fail
  have HB8 := hid (show Below w7.heap.size w7 w7.drew from below_self w7)
  generalize w7.drew = w8 at *
  clear hpos hnn hlen0 hS u0 u1 k0 k1 k2 hse hse2
  go_loopw [12] (fun iv W => ∃ k : Nat, k ≤ l1.length ∧ iv = .int .i64 (k : Int) ∧ Below w7.heap.size w7 W) (fun iv _ => l1.length - (intOf iv).toNat)
  case atStart => exact ⟨0, Nat.zero_le _, rfl, HB8.out⟩
  case round =>
    obtain ⟨k, hk, rfl, hb⟩ := hrel
    obtain ⟨wo, rfl⟩ : ∃ wo : World, wo = wr := ⟨_, rfl⟩
    have HBW := hid hb
    clear hb
    by_cases hlt : k < l1.length
    · have hcell := (H67.out.trans (HBW.out.mono H67.out.size) |>.cell (p := ⟨bl, ol + k, none⟩) HRL.out).trans (HCL.out k hlt)
      obtain ⟨ok1, ok2⟩ := HL6.out _ (List.getElem_mem hlt)
      generalize l1[k] = s at *
      have HCB := hid (fun c W => show Calls Tryd.prog 22 #[.string ⟨s.toArray⟩, .string ⟨#[c]⟩] W fun e w' => e = .returned (.bool (decide (0 ≤ Lib.indexByte s c))) ∧ w' = W from Tryd.strings_Contains_one ⟨s.toArray⟩ c W)
      have HC1 := hid (fun W => show Calls Tryd.prog 22 #[.string ⟨s.toArray⟩, .string ⟨#[10]⟩] W fun e w' => e = .returned (.bool false) ∧ w' = W from by
        have h := HCB.out 10 W
        rw [lineOk_byte ok1] at h; exact h)
      have HC2 := hid (fun W (hW : W.cell? ⟨2, 0, none⟩ = some (.int .i64 mx)) => show Calls Tryd.prog 22 #[.string ⟨s.toArray⟩, .string ⟨#[32, 32]⟩] W fun e w' => e = .returned (.bool false) ∧ w' = W from by
        have h := Tryd.strings_Contains ⟨s.toArray⟩ ⟨#[32, 32]⟩ mx W (by show s.toArray.size < 4294967281; simp; omega) hW
        have e : Lib.contains (⟨s.toArray⟩ : ByteArray).data.toList (⟨#[32, 32]⟩ : ByteArray).data.toList = false := by
          show decide (0 ≤ Lib.index s [32, 32]) = false
          rw [lineOk_index ok1]; rfl
        rw [e] at h; exact h)
      have HSF := hid (fun W => show Calls Tryd.prog 23 #[.string ⟨s.toArray⟩, .string ⟨#[32]⟩] W fun e w' => e = .returned (.bool false) ∧ w' = W from by
        have h := Tryd.strings_HasSuffix ⟨s.toArray⟩ ⟨#[32]⟩ W (by show s.toArray.size ≤ 9223372036854775807; simp; omega)
        have e : Lib.hasSuffix (⟨s.toArray⟩ : ByteArray).data.toList (⟨#[32]⟩ : ByteArray).data.toList = false := lineOk_suffix ok1
        rw [e] at h; exact h)
      have hmw := HB7.out.trans (HBW.out.mono HB7.out.size) |>.cell (p := ⟨2, 0, none⟩) (cell_size HMX.out) |>.trans HMX.out
      have HMW := hid hmw
      have hk63 : (k : Int) + 1 ≤ 9223372036854775807 := by omega
      clear HCB ok1 hmw
      go_wp2_with (first
        | (go_at_call 22; (first | with_reducible refine (HC1.out _).mono ?_ | with_reducible refine (HC2.out _ HMW.out).mono ?_); rintro e w9 ⟨rfl, rfl⟩)
        | (go_at_call 23; with_reducible refine (HSF.out _).mono ?_; rintro e w9 ⟨rfl, rfl⟩))
      go_roundw
      case rel => exact ⟨k + 1, by omega, by go_num, HBW.out⟩
      case measure => simp [intOf]; omega
    · obtain rfl : k = l1.length := by omega
      have HTW := hid (HT7.out.below HBW.out)
      go_wp2_with (go_at_call 11; with_reducible refine (awake_any _ HTW.out).mono ?_; rintro e w9 ⟨rfl, hb9⟩; have HB9 := hid hb9; clear hb9)
      go_ret
      exact ⟨rfl, HB7.out.trans ((HBW.out.trans (HB9.out.mono HBW.out.size)).mono HB7.out.size)⟩

set_option maxRecDepth 100000 in
set_option maxHeartbeats 4000000 in
theorem counts_3 (v : Vd) (pA pB : Option Addr) (cA cB : Nat) (lv ch : Int) (mx : Int) (w : World) (m n : Nat) (x : Vd) (hx : madeV v m n = x) (hk : x.kind = 3) (hv : VdOk v) (hvA : NLL (fun i => i < w.heap.size) w (.slice pA v.A.length cA) v.A) (hvB : NLL (fun i => i < w.heap.size) w (.slice pB v.B.length cB) v.B)
    (lvA : ∀ y ∈ v.A, y.length ≤ 17592186044415) (lvB : ∀ y ∈ v.B, y.length ≤ 17592186044415) (q : Nat) (hq : lv % 5 = (q : Int)) (hn : ch % 5 = (n : Int)) (hm : m = 1 + q) (hlv : -9223372036854775808 ≤ lv ∧ lv ≤ 9223372036854775807) (hch : -9223372036854775808 ≤ ch ∧ ch ≤ 9223372036854775807) (ht : Tabs w) (hmx : w.cell? ⟨2, 0, none⟩ = some (.int .i64 mx)) :
    Calls Tryd.prog 8 #[.agg #[.int .u8 (v.kind : Int), .int .u8 (v.reason : Int), .int .i64 v.level, .slice pA v.A.length cA, .slice pB v.B.length cB, .bool v.imp, .bool v.pol, .int .i64 v.line, .int .i64 v.col, .int .i64 v.err], .int .i64 lv, .int .i64 ch] w fun e w' => e = .returned (.bool true) ∧ Below w.heap.size w w' := by
  obtain ⟨W0, hW0⟩ : ∃ W, w.alloc (.cells #[.int .u8 (v.kind : Int), .int .u8 (v.reason : Int), .int .i64 v.level, .slice pA v.A.length cA, .slice pB v.B.length cB, .bool v.imp, .bool v.pol, .int .i64 v.line, .int .i64 v.col, .int .i64 v.err] 35) = W := ⟨_, rfl⟩
  have hb0 : Below w.heap.size w W0 := by rw [← hW0]; exact (Below.refl _ _).alloc (Nat.le_refl _) _
  have hz0 : W0.heap.size = w.heap.size + 1 := by rw [← hW0, World.size_alloc]
  have hc0 : W0.heap[w.heap.size]? = some (.cells #[.int .u8 (v.kind : Int), .int .u8 (v.reason : Int), .int .i64 v.level, .slice pA v.A.length cA, .slice pB v.B.length cB, .bool v.imp, .bool v.pol, .int .i64 v.line, .int .i64 v.col, .int .i64 v.err] 35 (0, 0)) := by rw [← hW0, heap_al, if_pos rfl]
  have up : ∀ i, i < w.heap.size → i < W0.heap.size ∧ W0.heap[i]? = w.heap[i]? := fun i hi => ⟨by omega, hb0.block i hi⟩
  have hv0 : VB W0 (w.heap.size) v pA cA pB cB := ⟨hc0, hvA.keep up, hvB.keep up⟩
  have HQ := hid (kmod_lit lv 5 q hlv (by omega) hq)
  have HN := hid (kmod_lit ch 5 n hch (by omega) hn)
  have hq4 : q ≤ 4 := by omega
  have hn4 : n ≤ 4 := by omega
  have em : 1 + (q : Int) = (m : Int) := by omega
  have hm1 : 1 ≤ m ∧ m ≤ 5 := by omega
  have hxo : VdOk x := by rw [← hx]; exact made_ok v m n hv (by omega)
  have hxm : Mv m n x := by rw [← hx]; exact made_mv v m n (by omega)
  have hrw : (∀ l ∈ x.A, l.length ≤ 20) ∧ ∀ l ∈ x.B, l.length ≤ 20 := by rw [← hx]; exact made_rows v m n
  obtain ⟨g1, g2, ⟨z, r, g3, g4, g5⟩, g6⟩ := counts hxm hxo hrw.1 hrw.2 (by omega) (by omega)
  obtain ⟨l1, hl1⟩ : ∃ l, (vlinesR x (namesL m) (namesL n)).1 = l := ⟨_, rfl⟩
  rw [hl1] at g2 g3 g6
  have HWD0 := hid (fun W (hW : Tabs W) => word_any x.kind x.reason W hxo.kind hxo.reason hW)
  unfold WordPost at HWD0
  rw [g1] at HWD0
  generalize (wordR x.kind x.reason).1 = wd at *
  have HWD := HWD0
  have g5' : decide (z = wd) = false := by rw [g5, hk]; decide
  have hN : l1.length = 1 := by rw [g2, hk]; simp
  have hse : ((⟨z.toArray⟩ : ByteArray).toList == (⟨wd.toArray⟩ : ByteArray).toList) = false := by rw [str_eqL, g5']
  have hse2 : (z == wd) = false := by rw [← g5']; by_cases h : z = wd <;> simp [h]
  have HHP := hid (fun W => show Calls Tryd.prog 21 #[.string ⟨z.toArray⟩, .string ⟨wd.toArray⟩] W fun e w' => e = .returned (.bool true) ∧ w' = W from by
    have h := Tryd.strings_HasPrefix ⟨z.toArray⟩ ⟨wd.toArray⟩ W
    have e : Lib.hasPrefix (⟨z.toArray⟩ : ByteArray).data.toList (⟨wd.toArray⟩ : ByteArray).data.toList = true := g4
    rw [e] at h; exact h)
  have HL6 := hid g6; have HL3 := hid g3
  have HMV := hid (made_boxV m n hv0 hv (by omega) (by omega) lvA lvB x hx)
  have HNM := hid (fun W => names_box m W (by omega))
  have HNC := hid (fun W => names_box n W (by omega))
  have HLX := hid (fun (W : World) (p1 : Option Addr) (c1 : Nat) (p2 : Option Addr) (c2 : Nat) (vl vc : Value) (h : VB W (w.heap.size) x p1 c1 p2 c2) => lines_boxV (vl := vl) (vc := vc) hxo hxm (by omega) l1 hl1 h)
  have k0 : ((x.kind : Int) == 0) = false := by rw [hk]; decide
  have k1 : ((x.kind : Int) == 1) = false := by rw [hk]; decide
  have k2 : ((x.kind : Int) == 2) = false := by rw [hk]; decide
  have HV0 := hid hv0; have HB0 := hid hb0; have HZ := hid hz0; have HWW := hid hW0; have HT := hid ht; have HMX := hid hmx; have HN1 := hid hN
  clear HWD0 hvA hvB hb0 hz0 hc0 hW0 up lvA lvB hv hxo hxm hrw hl1 hv0 hx hq hn ht hm hmx hk g1 g2 g3 g4 g5 g6 g5' hN
  go_enter Tryd.func8, Tryd.ntmps8
  go_wp2_with (go_at_call 13; (first | with_reducible refine (HQ.out _).mono ?_ | with_reducible refine (HN.out _).mono ?_); rintro e w1 ⟨rfl, rfl⟩)
  rw [HWW.out]
  refine HMV.out.mono ?_
  rintro e w2 ⟨hb2, p1, c1, p2, c2, rfl, hx1, hx2⟩
  have hv2 := HV0.out.step hb2
  have HV2 := hid hv2; have HX1 := hid hx1; have HX2 := hid hx2; have HB2 := hid (HB0.out.trans (hb2.mono HB0.out.size))
  have x0 : w2.cell? ⟨w.heap.size, 0, none⟩ = some (.int .u8 (v.kind : Int)) := (by rw [cell_of_row w2 _ 0 _ _ _ hv2.c]; rfl)
  have f0 : w2.frozen? ⟨w.heap.size, 0, none⟩ = false := frozen_of_row w2 _ 0 _ _ hv2.c
  have x1 : w2.cell? ⟨w.heap.size, 1, none⟩ = some (.int .u8 (v.reason : Int)) := (by rw [cell_of_row w2 _ 1 _ _ _ hv2.c]; rfl)
  have f1 : w2.frozen? ⟨w.heap.size, 1, none⟩ = false := frozen_of_row w2 _ 1 _ _ hv2.c
  have x2 : w2.cell? ⟨w.heap.size, 2, none⟩ = some (.int .i64 v.level) := (by rw [cell_of_row w2 _ 2 _ _ _ hv2.c]; rfl)
  have f2 : w2.frozen? ⟨w.heap.size, 2, none⟩ = false := frozen_of_row w2 _ 2 _ _ hv2.c
  have x3 : w2.cell? ⟨w.heap.size, 3, none⟩ = some (.slice pA v.A.length cA) := (by rw [cell_of_row w2 _ 3 _ _ _ hv2.c]; rfl)
  have f3 : w2.frozen? ⟨w.heap.size, 3, none⟩ = false := frozen_of_row w2 _ 3 _ _ hv2.c
  have x4 : w2.cell? ⟨w.heap.size, 4, none⟩ = some (.slice pB v.B.length cB) := (by rw [cell_of_row w2 _ 4 _ _ _ hv2.c]; rfl)
  have f4 : w2.frozen? ⟨w.heap.size, 4, none⟩ = false := frozen_of_row w2 _ 4 _ _ hv2.c
  have x5 : w2.cell? ⟨w.heap.size, 5, none⟩ = some (.bool v.imp) := (by rw [cell_of_row w2 _ 5 _ _ _ hv2.c]; rfl)
  have f5 : w2.frozen? ⟨w.heap.size, 5, none⟩ = false := frozen_of_row w2 _ 5 _ _ hv2.c
  have x6 : w2.cell? ⟨w.heap.size, 6, none⟩ = some (.bool v.pol) := (by rw [cell_of_row w2 _ 6 _ _ _ hv2.c]; rfl)
  have f6 : w2.frozen? ⟨w.heap.size, 6, none⟩ = false := frozen_of_row w2 _ 6 _ _ hv2.c
  have x7 : w2.cell? ⟨w.heap.size, 7, none⟩ = some (.int .i64 v.line) := (by rw [cell_of_row w2 _ 7 _ _ _ hv2.c]; rfl)
  have f7 : w2.frozen? ⟨w.heap.size, 7, none⟩ = false := frozen_of_row w2 _ 7 _ _ hv2.c
  have x8 : w2.cell? ⟨w.heap.size, 8, none⟩ = some (.int .i64 v.col) := (by rw [cell_of_row w2 _ 8 _ _ _ hv2.c]; rfl)
  have f8 : w2.frozen? ⟨w.heap.size, 8, none⟩ = false := frozen_of_row w2 _ 8 _ _ hv2.c
  have x9 : w2.cell? ⟨w.heap.size, 9, none⟩ = some (.int .i64 v.err) := (by rw [cell_of_row w2 _ 9 _ _ _ hv2.c]; rfl)
  have f9 : w2.frozen? ⟨w.heap.size, 9, none⟩ = false := frozen_of_row w2 _ 9 _ _ hv2.c
  clear hb2 hx1 hx2 hv2
  go_wp2_with (obtain ⟨w5, hw5⟩ : ∃ W, ((((((((((w2).setCell ⟨w.heap.size, 0, none⟩ (.int .u8 (x.kind : Int))).setCell ⟨w.heap.size, 1, none⟩ (.int .u8 (x.reason : Int))).setCell ⟨w.heap.size, 2, none⟩ (.int .i64 x.level)).setCell ⟨w.heap.size, 3, none⟩ (.slice p1 x.A.length c1)).setCell ⟨w.heap.size, 4, none⟩ (.slice p2 x.B.length c2)).setCell ⟨w.heap.size, 5, none⟩ (.bool x.imp)).setCell ⟨w.heap.size, 6, none⟩ (.bool x.pol)).setCell ⟨w.heap.size, 7, none⟩ (.int .i64 x.line)).setCell ⟨w.heap.size, 8, none⟩ (.int .i64 x.col)).setCell ⟨w.heap.size, 9, none⟩ (.int .i64 x.err) = W := ⟨_, rfl⟩; rw [hw5]; obtain ⟨hx5, hk5, hs5, hb5⟩ := HV2.out.of_set (x := x) (p1 := p1) (c1 := c1) (p2 := p2) (c2 := c2) HX1.out HX2.out (fun i hi => ⟨by have := HZ.out; omega, hi.2⟩) (fun i hi => ⟨by have := HZ.out; omega, hi.2⟩) hw5; have HX5 := hid hx5; have HB5 := hid (hb5 HB2.out (Nat.le_refl _)); have HT5 := hid (HT.out.below HB5.out); clear x0 f0 x1 f1 x2 f2 x3 f3 x4 f4 x5 f5 x6 f6 x7 f7 x8 f8 x9 f9 hw5 hx5 hk5 hs5 hb5)
  have hS : (Sx (w.heap.size) x p1 c1 p2 c2) w5.drew := (HX5.out.step (below_self _)).sx
  have hFa : ∀ f, Fence.wide.fn f := fun _ => trivial
  refine (wpIn_wide (n := 9)).1 ?_
  refine wpIn_onlyN ?_
  refine wpIn_region_HJ (Sx (w.heap.size) x p1 c1 p2 c2) 10 (by kernel_rfl) ?_
  simp only [List.size_toArray, List.length_cons, List.length_nil, Nat.reduceAdd]
  refine wpHJ_take (v := ?vb0) 0 hFa rfl (by kernel_rfl) (fun _ _ _ h => h.elim) (Or.inl ⟨by rfl, ?yb0⟩) hS ?rb0
  case yb0 => (intro w' hS'; obtain ⟨s0, s1, s2, s3, s4, s5, s6, s7, s8, s9⟩ := hS'; go_simp; try rfl)
  simp only [Act.put, List.getElem_toArray, List.getElem_cons_succ, List.getElem_cons_zero, List.setIfInBounds_toArray, List.set_cons_zero, List.set_cons_succ]
  refine wpHJ_pure (v := ?vb1) 1 hFa rfl (by kernel_rfl) (fun _ _ _ h => h.elim) (Or.inl ⟨by rfl, ?yb1⟩) (.inr hS) ?rb1
  case yb1 => (intro w' _; go_simp; try rfl)
  simp only [Act.put, List.getElem_toArray, List.getElem_cons_succ, List.getElem_cons_zero, List.setIfInBounds_toArray, List.set_cons_zero, List.set_cons_succ]
  refine wpHJ_pure (v := ?vb3) 3 hFa rfl (by kernel_rfl) (fun _ _ _ h => h.elim) (Or.inl ⟨by rfl, ?yb3⟩) (.inr hS) ?rb3
  case yb3 => (intro w' _; go_simp; try rfl)
  simp only [Act.put, List.getElem_toArray, List.getElem_cons_succ, List.getElem_cons_zero, List.setIfInBounds_toArray, List.set_cons_zero, List.set_cons_succ]
  clear hS
  have hbd := below_self w5
  have hvd := HX5.out.step hbd
  have htd := HT5.out.below hbd
  generalize w5.drew = wd3 at *
  have HX5d := hid hvd; have HBd := hid hbd; have HTd := hid htd
  clear hvd hbd htd
  refine wpHJ_only 2 (by kernel_rfl) rfl ?_
  intro K hK
  go_simp
  (with_reducible refine (callsIn_wide.2 (HNM.out wd3)).mono ?_)
  rintro e wd3a ⟨hba, pm, cm, rfl, hsm⟩
  have HBA := hid hba; have HSM := hid hsm
  clear hba hsm
  refine hK _ _ (.inr (.inr (HX5d.out.step HBA.out).sx)) ?_
  clear hK K
  refine wpHJ_only 4 (by kernel_rfl) rfl ?_
  intro K hK
  go_simp
  (with_reducible refine (callsIn_wide.2 (HNC.out wd3a)).mono ?_)
  rintro e wd3b ⟨hbb, pn, cn, rfl, hsn⟩
  have HBB := hid hbb; have HSN := hid hsn
  clear hbb hsn
  refine hK _ _ (.inr (.inr ((HX5d.out.step HBA.out).step HBB.out).sx)) ?_
  clear hK K
  refine wpHJ_only 5 (by kernel_rfl) rfl ?_
  intro K hK
  go_simp
  (with_reducible refine (callsIn_wide.2 (HLX.out _ _ _ _ _ _ _ ((HX5d.out.step HBA.out).step HBB.out) (HSM.out.keep fun i hi => ⟨Nat.lt_of_lt_of_le hi HBB.out.size, HBB.out.block i hi⟩) HSN.out ((HTd.out.below HBA.out).below HBB.out))).mono ?_)
  rintro e w6 ⟨hbc, pl1, cl1, rfl, hsl⟩
  have hbo := HBd.out.trans ((HBA.out.trans (HBB.out.mono HBA.out.size)).trans (hbc.mono (Nat.le_trans HBA.out.size HBB.out.size)) |>.mono HBd.out.size)
  have HBO := hid hbo; have HSL1 := hid hsl
  clear hbc hsl hbo
  refine hK _ _ (.inr (.inr (HX5.out.step HBO.out).sx)) ?_
  clear hK K
  refine wpHJ_pure (v := ?vb6) 6 hFa rfl (by kernel_rfl) (fun _ _ _ h => h.elim) (Or.inl ⟨by rfl, ?yb6⟩) (.inr (HX5.out.step HBO.out).sx) ?rb6
  case yb6 => (intro w' _; go_simp; try rfl)
  simp only [Act.put, List.getElem_toArray, List.getElem_cons_succ, List.getElem_cons_zero, List.setIfInBounds_toArray, List.set_cons_zero, List.set_cons_succ]
  refine wpHJ_pure (v := ?vb7) 7 hFa rfl (by kernel_rfl) (fun _ _ _ h => h.elim) (Or.inl ⟨by rfl, ?yb7⟩) (.inr (HX5.out.step HBO.out).sx) ?rb7
  case yb7 => (intro w' _; go_simp; try rfl)
  simp only [Act.put, List.getElem_toArray, List.getElem_cons_succ, List.getElem_cons_zero, List.setIfInBounds_toArray, List.set_cons_zero, List.set_cons_succ]
  refine wpHJ_pure (v := ?vb8) 8 hFa rfl (by kernel_rfl) (fun _ _ _ h => h.elim) (Or.inl ⟨by rfl, ?yb8⟩) (.inr (HX5.out.step HBO.out).sx) ?rb8
  case yb8 => (intro w' _; go_simp; try rfl)
  simp only [Act.put, List.getElem_toArray, List.getElem_cons_succ, List.getElem_cons_zero, List.setIfInBounds_toArray, List.set_cons_zero, List.set_cons_succ]
  refine wpHJ_pure (v := ?vb9) 9 hFa rfl (by kernel_rfl) (fun _ _ _ h => h.elim) (Or.inl ⟨by rfl, ?yb9⟩) (.inr (HX5.out.step HBO.out).sx) ?rb9
  case yb9 => (intro w' _; go_simp; try rfl)
  simp only [Act.put, List.getElem_toArray, List.getElem_cons_succ, List.getElem_cons_zero, List.setIfInBounds_toArray, List.set_cons_zero, List.set_cons_succ]
  refine wpHJ_only 10 (by kernel_rfl) rfl ?_
  intro K hK
  go_simp
  refine hK _ _ (.inl rfl) ?_
  clear hK K
  refine wpHJ_done (by kernel_rfl) ?_ _
  simp only [onlyN, Exit.then]
  clear hFa
  have HX6 := hid (HX5.out.step HBO.out)
  have HT6 := hid (HT5.out.below HBO.out)
  have HB6 := hid (HB5.out.trans (HBO.out.mono HB5.out.size))
  clear HBO HBA HBB HBd HX5d HTd
  have y0 : w6.cell? ⟨w.heap.size, 0, none⟩ = some (.int .u8 (x.kind : Int)) := by rw [cell_of_row w6 _ 0 _ _ _ HX6.out.c]; rfl
  have y1 : w6.cell? ⟨w.heap.size, 1, none⟩ = some (.int .u8 (x.reason : Int)) := by rw [cell_of_row w6 _ 1 _ _ _ HX6.out.c]; rfl
  obtain ⟨pl, cl, el, _, _, _, hrl⟩ := HSL1.out.op
  have epl : pl1 = pl := by injection el
  subst epl
  clear el
  obtain ⟨bl, ol, rfl, hRl, hcl⟩ := hrl.atS 0 (by rw [HN1.out]; omega)
  have hz1 : w6.cell? ⟨bl, ol, none⟩ = some (.string ⟨z.toArray⟩) := by
    have h := hcl 0 (by rw [HN1.out]; omega)
    have e : l1[0]'(by rw [HN1.out]; omega) = z := by have := HL3.out; simp [this]
    rw [e] at h; exact h
  have HCL := hid hcl; have HRL := hid hRl; have HZ1 := hid hz1
  have hnn : (l1.length : Int) = 1 := by rw [HN1.out]; omega
  have hlen0 : ¬ l1.length = 0 := by rw [HN1.out]; omega
  have hpos : (0 : Int) < 1 + 2 * (n : Int) := by omega
  clear hrl hcl hRl hz1
  go_wp2_with (go_at_call 9; refine (HWD.out _ HT6.out).mono ?_; rintro e w7 ⟨rfl, hb7⟩; have hx7 := HX6.out.step hb7; have HX7 := hid hx7; have HT7 := hid (HT6.out.below hb7); have HB7 := hid (HB6.out.trans (hb7.mono HB6.out.size)); have H67 := hid hb7; have u0 : w7.cell? ⟨w.heap.size, 0, none⟩ = some (.int .u8 (x.kind : Int)) := (by rw [cell_of_row w7 _ 0 _ _ _ hx7.c]; rfl); have u1 : w7.cell? ⟨bl, ol, none⟩ = some (.string ⟨z.toArray⟩) := (hb7.cell (p := ⟨bl, ol, none⟩) HRL.out).trans HZ1.out; clear hx7 hb7 y0 y1)
  have hS : (fun W : World => W.cell? ⟨bl, ol, none⟩ = some (.string ⟨z.toArray⟩) ∧ W.cell? ⟨w.heap.size, 0, none⟩ = some (.int .u8 (x.kind : Int))) w7.drew := ⟨u1, u0⟩
  have hFa : ∀ f, Fence.wide.fn f := fun _ => trivial
  refine (wpIn_wide (n := 9)).1 ?_
  refine wpIn_onlyN ?_
  refine wpIn_region_HJ (fun W : World => W.cell? ⟨bl, ol, none⟩ = some (.string ⟨z.toArray⟩) ∧ W.cell? ⟨w.heap.size, 0, none⟩ = some (.int .u8 (x.kind : Int))) 36 (by kernel_rfl) ?_
  simp only [List.size_toArray, List.length_cons, List.length_nil, Nat.reduceAdd]
  refine wpHJ_take (v := ?vc0) 0 hFa rfl (by kernel_rfl) (fun _ _ _ h => h.elim) (Or.inl ⟨by rfl, ?yc0⟩) hS ?rc0
  case yc0 => (intro w' hS'; obtain ⟨s1, s2⟩ := hS'; go_simp; try rfl)
  simp only [Act.put, List.getElem_toArray, List.getElem_cons_succ, List.getElem_cons_zero, List.setIfInBounds_toArray, List.set_cons_zero, List.set_cons_succ]
  refine wpHJ_take (v := ?vc1) 1 hFa rfl (by kernel_rfl) (fun _ _ _ h => h.elim) (Or.inl ⟨by rfl, ?yc1⟩) hS ?rc1
  case yc1 => (intro w' hS'; obtain ⟨s1, s2⟩ := hS'; go_simp; try rfl)
  simp only [Act.put, List.getElem_toArray, List.getElem_cons_succ, List.getElem_cons_zero, List.setIfInBounds_toArray, List.set_cons_zero, List.set_cons_succ]
  refine wpHJ_take (v := ?vc2) 2 hFa rfl (by kernel_rfl) (fun _ _ _ h => h.elim) (Or.inl ⟨by rfl, ?yc2⟩) hS ?rc2
  case yc2 => (intro w' hS'; obtain ⟨s1, s2⟩ := hS'; go_simp; try rfl)
  simp only [Act.put, List.getElem_toArray, List.getElem_cons_succ, List.getElem_cons_zero, List.setIfInBounds_toArray, List.set_cons_zero, List.set_cons_succ]
  refine wpHJ_take (v := ?vc3) 3 hFa rfl (by kernel_rfl) (fun _ _ _ h => h.elim) (Or.inl ⟨by simp [Region.wanted, yielded], ?yc3⟩) hS ?rc3
  case yc3 => (intro w' hS'; obtain ⟨s1, s2⟩ := hS'; go_simp; try rfl)
  simp only [Act.put, List.getElem_toArray, List.getElem_cons_succ, List.getElem_cons_zero, List.setIfInBounds_toArray, List.set_cons_zero, List.set_cons_succ]
  refine wpHJ_take (v := ?vc4) 4 hFa rfl (by kernel_rfl) (fun _ _ _ h => h.elim) (Or.inl ⟨by simp [Region.wanted, yielded], ?yc4⟩) hS ?rc4
  case yc4 => (intro w' hS'; obtain ⟨s1, s2⟩ := hS'; go_simp; try rfl)
  simp only [Act.put, List.getElem_toArray, List.getElem_cons_succ, List.getElem_cons_zero, List.setIfInBounds_toArray, List.set_cons_zero, List.set_cons_succ]
  refine wpHJ_take (v := ?vc5) 5 hFa rfl (by kernel_rfl) (fun _ _ _ h => h.elim) (Or.inl ⟨by rfl, ?yc5⟩) hS ?rc5
  case yc5 => (intro w' hS'; obtain ⟨s1, s2⟩ := hS'; go_simp; try rfl)
  simp only [Act.put, List.getElem_toArray, List.getElem_cons_succ, List.getElem_cons_zero, List.setIfInBounds_toArray, List.set_cons_zero, List.set_cons_succ]
  refine wpHJ_take (v := ?vc6) 6 hFa rfl (by kernel_rfl) (fun _ _ _ h => h.elim) (Or.inl ⟨by rfl, ?yc6⟩) hS ?rc6
  case yc6 => (intro w' hS'; obtain ⟨s1, s2⟩ := hS'; go_simp; try rfl)
  simp only [Act.put, List.getElem_toArray, List.getElem_cons_succ, List.getElem_cons_zero, List.setIfInBounds_toArray, List.set_cons_zero, List.set_cons_succ]
  refine wpHJ_take (v := ?vc7) 7 hFa rfl (by kernel_rfl) (fun _ _ _ h => h.elim) (Or.inl ⟨by simp [Region.wanted, yielded], ?yc7⟩) hS ?rc7
  case yc7 => (intro w' hS'; obtain ⟨s1, s2⟩ := hS'; go_simp; try rfl)
  simp only [Act.put, List.getElem_toArray, List.getElem_cons_succ, List.getElem_cons_zero, List.setIfInBounds_toArray, List.set_cons_zero, List.set_cons_succ]
  refine wpHJ_take (v := ?vc8) 8 hFa rfl (by kernel_rfl) (fun _ _ _ h => h.elim) (Or.inl ⟨by simp [Region.wanted, yielded], ?yc8⟩) hS ?rc8
  case yc8 => (intro w' hS'; obtain ⟨s1, s2⟩ := hS'; go_simp; try rfl)
  simp only [Act.put, List.getElem_toArray, List.getElem_cons_succ, List.getElem_cons_zero, List.setIfInBounds_toArray, List.set_cons_zero, List.set_cons_succ]
  refine wpHJ_take (v := ?vc9) 9 hFa rfl (by kernel_rfl) (fun _ _ _ h => h.elim) (Or.inl ⟨by simp [Region.wanted, yielded], ?yc9⟩) hS ?rc9
  case yc9 => (intro w' hS'; obtain ⟨s1, s2⟩ := hS'; go_simp; try rfl)
  simp only [Act.put, List.getElem_toArray, List.getElem_cons_succ, List.getElem_cons_zero, List.setIfInBounds_toArray, List.set_cons_zero, List.set_cons_succ]
  refine wpHJ_take (v := ?vc10) 10 hFa rfl (by kernel_rfl) (fun _ _ _ h => h.elim) (Or.inl ⟨by simp [Region.wanted, yielded], ?yc10⟩) hS ?rc10
  case yc10 => (intro w' hS'; obtain ⟨s1, s2⟩ := hS'; go_simp; try rfl)
  simp only [Act.put, List.getElem_toArray, List.getElem_cons_succ, List.getElem_cons_zero, List.setIfInBounds_toArray, List.set_cons_zero, List.set_cons_succ]
  refine wpHJ_take (v := ?vc11) 11 hFa rfl (by kernel_rfl) (fun _ _ _ h => h.elim) (Or.inl ⟨by rfl, ?yc11⟩) hS ?rc11
  case yc11 => (intro w' hS'; obtain ⟨s1, s2⟩ := hS'; go_simp; try rfl)
  simp only [Act.put, List.getElem_toArray, List.getElem_cons_succ, List.getElem_cons_zero, List.setIfInBounds_toArray, List.set_cons_zero, List.set_cons_succ]
  refine wpHJ_take (v := ?vc12) 12 hFa rfl (by kernel_rfl) (fun _ _ _ h => h.elim) (Or.inl ⟨by rfl, ?yc12⟩) hS ?rc12
  case yc12 => (intro w' hS'; obtain ⟨s1, s2⟩ := hS'; go_simp; try rfl)
  simp only [Act.put, List.getElem_toArray, List.getElem_cons_succ, List.getElem_cons_zero, List.setIfInBounds_toArray, List.set_cons_zero, List.set_cons_succ]
  refine wpHJ_take (v := ?vc13) 13 hFa rfl (by kernel_rfl) (fun _ _ _ h => h.elim) (Or.inl ⟨by simp [Region.wanted, yielded], ?yc13⟩) hS ?rc13
  case yc13 => (intro w' hS'; obtain ⟨s1, s2⟩ := hS'; go_simp; try rfl)
  simp only [Act.put, List.getElem_toArray, List.getElem_cons_succ, List.getElem_cons_zero, List.setIfInBounds_toArray, List.set_cons_zero, List.set_cons_succ]
  refine wpHJ_take (v := ?vc14) 14 hFa rfl (by kernel_rfl) (fun _ _ _ h => h.elim) (Or.inl ⟨by simp [Region.wanted, yielded], ?yc14⟩) hS ?rc14
  case yc14 => (intro w' hS'; obtain ⟨s1, s2⟩ := hS'; go_simp; try rfl)
  simp only [Act.put, List.getElem_toArray, List.getElem_cons_succ, List.getElem_cons_zero, List.setIfInBounds_toArray, List.set_cons_zero, List.set_cons_succ]
  refine wpHJ_take (v := ?vc15) 15 hFa rfl (by kernel_rfl) (fun _ _ _ h => h.elim) (Or.inl ⟨by simp [Region.wanted, yielded], ?yc15⟩) hS ?rc15
  case yc15 => (intro w' hS'; obtain ⟨s1, s2⟩ := hS'; go_simp; try rfl)
  simp only [Act.put, List.getElem_toArray, List.getElem_cons_succ, List.getElem_cons_zero, List.setIfInBounds_toArray, List.set_cons_zero, List.set_cons_succ]
  refine wpHJ_take (v := ?vc16) 16 hFa rfl (by kernel_rfl) (fun _ _ _ h => h.elim) (Or.inl ⟨by simp [Region.wanted, yielded], ?yc16⟩) hS ?rc16
  case yc16 => (intro w' hS'; obtain ⟨s1, s2⟩ := hS'; go_simp; try rfl)
  simp only [Act.put, List.getElem_toArray, List.getElem_cons_succ, List.getElem_cons_zero, List.setIfInBounds_toArray, List.set_cons_zero, List.set_cons_succ]
  refine wpHJ_only 17 (by kernel_rfl) rfl ?_
  intro K hK
  rw [if_pos (by simp [Region.wanted, yielded])]
  go_simp
  (with_reducible refine (callsIn_wide.2 (HHP.out w7.drew)).mono ?_)
  rintro e w8 ⟨rfl, rfl⟩
  refine hK _ _ (.inr (.inr hS)) ?_
  clear hK K
  refine wpHJ_take (v := ?vc18) 18 hFa rfl (by kernel_rfl) (fun _ _ _ h => h.elim) (Or.inl ⟨by simp [Region.wanted, yielded], ?yc18⟩) hS ?rc18
  case yc18 => (intro w' hS'; obtain ⟨s1, s2⟩ := hS'; go_simp; try rfl)
  simp only [Act.put, List.getElem_toArray, List.getElem_cons_succ, List.getElem_cons_zero, List.setIfInBounds_toArray, List.set_cons_zero, List.set_cons_succ]
  refine wpHJ_take (v := ?vc19) 19 hFa rfl (by kernel_rfl) (fun _ _ _ h => h.elim) (Or.inl ⟨by rfl, ?yc19⟩) hS ?rc19
  case yc19 => (intro w' hS'; obtain ⟨s1, s2⟩ := hS'; go_simp; try rfl)
  simp only [Act.put, List.getElem_toArray, List.getElem_cons_succ, List.getElem_cons_zero, List.setIfInBounds_toArray, List.set_cons_zero, List.set_cons_succ]
  refine wpHJ_take (v := ?vc20) 20 hFa rfl (by kernel_rfl) (fun _ _ _ h => h.elim) (Or.inl ⟨by rfl, ?yc20⟩) hS ?rc20
  case yc20 => (intro w' hS'; obtain ⟨s1, s2⟩ := hS'; go_simp; try rfl)
  simp only [Act.put, List.getElem_toArray, List.getElem_cons_succ, List.getElem_cons_zero, List.setIfInBounds_toArray, List.set_cons_zero, List.set_cons_succ]
  refine wpHJ_take (v := ?vc21) 21 hFa rfl (by kernel_rfl) (fun _ _ _ h => h.elim) (Or.inl ⟨by simp [Region.wanted, yielded], ?yc21⟩) hS ?rc21
  case yc21 => (intro w' hS'; obtain ⟨s1, s2⟩ := hS'; go_simp; try rfl)
  simp only [Act.put, List.getElem_toArray, List.getElem_cons_succ, List.getElem_cons_zero, List.setIfInBounds_toArray, List.set_cons_zero, List.set_cons_succ]
  refine wpHJ_take (v := ?vc22) 22 hFa rfl (by kernel_rfl) (fun _ _ _ h => h.elim) (Or.inl ⟨by simp [Region.wanted, yielded], ?yc22⟩) hS ?rc22
  case yc22 => (intro w' hS'; obtain ⟨s1, s2⟩ := hS'; go_simp; try rfl)
  simp only [Act.put, List.getElem_toArray, List.getElem_cons_succ, List.getElem_cons_zero, List.setIfInBounds_toArray, List.set_cons_zero, List.set_cons_succ]
  refine wpHJ_take (v := ?vc23) 23 hFa rfl (by kernel_rfl) (fun _ _ _ h => h.elim) (Or.inl ⟨by simp [Region.wanted, yielded], ?yc23⟩) hS ?rc23
  case yc23 => (intro w' hS'; obtain ⟨s1, s2⟩ := hS'; go_simp; try rfl)
  simp only [Act.put, List.getElem_toArray, List.getElem_cons_succ, List.getElem_cons_zero, List.setIfInBounds_toArray, List.set_cons_zero, List.set_cons_succ]
  refine wpHJ_take (v := ?vc24) 24 hFa rfl (by kernel_rfl) (fun _ _ _ h => h.elim) (Or.inl ⟨by simp [Region.wanted, yielded], ?yc24⟩) hS ?rc24
  case yc24 => (intro w' hS'; obtain ⟨s1, s2⟩ := hS'; go_simp; try rfl)
  simp only [Act.put, List.getElem_toArray, List.getElem_cons_succ, List.getElem_cons_zero, List.setIfInBounds_toArray, List.set_cons_zero, List.set_cons_succ]
  refine wpHJ_take (v := ?vc25) 25 hFa rfl (by kernel_rfl) (fun _ _ _ h => h.elim) (Or.inl ⟨by simp [Region.wanted, yielded], ?yc25⟩) hS ?rc25
  case yc25 => (intro w' hS'; obtain ⟨s1, s2⟩ := hS'; go_simp; try rfl)
  simp only [Act.put, List.getElem_toArray, List.getElem_cons_succ, List.getElem_cons_zero, List.setIfInBounds_toArray, List.set_cons_zero, List.set_cons_succ]
  refine wpHJ_take (v := ?vc26) 26 hFa rfl (by kernel_rfl) (fun _ _ _ h => h.elim) (Or.inl ⟨by simp [Region.wanted, yielded], ?yc26⟩) hS ?rc26
  case yc26 => (intro w' hS'; obtain ⟨s1, s2⟩ := hS'; go_simp; try rfl)
  simp only [Act.put, List.getElem_toArray, List.getElem_cons_succ, List.getElem_cons_zero, List.setIfInBounds_toArray, List.set_cons_zero, List.set_cons_succ]
  refine wpHJ_take (v := ?vc27) 27 hFa rfl (by kernel_rfl) (fun _ _ _ h => h.elim) (Or.inl ⟨by simp [Region.wanted, yielded], ?yc27⟩) hS ?rc27
  case yc27 => (intro w' hS'; obtain ⟨s1, s2⟩ := hS'; go_simp; try rfl)
  simp only [Act.put, List.getElem_toArray, List.getElem_cons_succ, List.getElem_cons_zero, List.setIfInBounds_toArray, List.set_cons_zero, List.set_cons_succ]
  refine wpHJ_take (v := ?vc28) 28 hFa rfl (by kernel_rfl) (fun _ _ _ h => h.elim) (Or.inl ⟨by simp [Region.wanted, yielded], ?yc28⟩) hS ?rc28
  case yc28 => (intro w' hS'; obtain ⟨s1, s2⟩ := hS'; go_simp; try rfl)
  simp only [Act.put, List.getElem_toArray, List.getElem_cons_succ, List.getElem_cons_zero, List.setIfInBounds_toArray, List.set_cons_zero, List.set_cons_succ]
  refine wpHJ_take (v := ?vc29) 29 hFa rfl (by kernel_rfl) (fun _ _ _ h => h.elim) (Or.inl ⟨by simp [Region.wanted, yielded], ?yc29⟩) hS ?rc29
  case yc29 => (intro w' hS'; obtain ⟨s1, s2⟩ := hS'; go_simp; try rfl)
  simp only [Act.put, List.getElem_toArray, List.getElem_cons_succ, List.getElem_cons_zero, List.setIfInBounds_toArray, List.set_cons_zero, List.set_cons_succ]
  refine wpHJ_take (v := ?vc30) 30 hFa rfl (by kernel_rfl) (fun _ _ _ h => h.elim) (Or.inl ⟨by simp [Region.wanted, yielded], ?yc30⟩) hS ?rc30
  case yc30 => (intro w' hS'; obtain ⟨s1, s2⟩ := hS'; go_simp; try rfl)
  simp only [Act.put, List.getElem_toArray, List.getElem_cons_succ, List.getElem_cons_zero, List.setIfInBounds_toArray, List.set_cons_zero, List.set_cons_succ]
  refine wpHJ_take (v := ?vc31) 31 hFa rfl (by kernel_rfl) (fun _ _ _ h => h.elim) (Or.inl ⟨by simp [Region.wanted, yielded], ?yc31⟩) hS ?rc31
  case yc31 => (intro w' hS'; obtain ⟨s1, s2⟩ := hS'; go_simp; try rfl)
  simp only [Act.put, List.getElem_toArray, List.getElem_cons_succ, List.getElem_cons_zero, List.setIfInBounds_toArray, List.set_cons_zero, List.set_cons_succ]
  refine wpHJ_take (v := ?vc32) 32 hFa rfl (by kernel_rfl) (fun _ _ _ h => h.elim) (Or.inl ⟨by simp [Region.wanted, yielded], ?yc32⟩) hS ?rc32
  case yc32 => (intro w' hS'; obtain ⟨s1, s2⟩ := hS'; go_simp; try rfl)
  simp only [Act.put, List.getElem_toArray, List.getElem_cons_succ, List.getElem_cons_zero, List.setIfInBounds_toArray, List.set_cons_zero, List.set_cons_succ]
  refine wpHJ_take (v := ?vc33) 33 hFa rfl (by kernel_rfl) (fun _ _ _ h => h.elim) (Or.inl ⟨by simp [Region.wanted, yielded], ?yc33⟩) hS ?rc33
  case yc33 => (intro w' hS'; obtain ⟨s1, s2⟩ := hS'; go_simp; try rfl)
  simp only [Act.put, List.getElem_toArray, List.getElem_cons_succ, List.getElem_cons_zero, List.setIfInBounds_toArray, List.set_cons_zero, List.set_cons_succ]
  refine wpHJ_take (v := ?vc34) 34 hFa rfl (by kernel_rfl) (fun _ _ _ h => h.elim) (Or.inl ⟨by simp [Region.wanted, yielded], ?yc34⟩) hS ?rc34
  case yc34 => (intro w' hS'; obtain ⟨s1, s2⟩ := hS'; go_simp; try rfl)
  simp only [Act.put, List.getElem_toArray, List.getElem_cons_succ, List.getElem_cons_zero, List.setIfInBounds_toArray, List.set_cons_zero, List.set_cons_succ]
  refine wpHJ_only 35 (by kernel_rfl) rfl ?_
  intro K hK
  go_simp
  refine hK _ _ (.inr (.inr hS)) ?_
  clear hK K
  refine wpHJ_done (by kernel_rfl) ?_ _
  simp only [onlyN, Exit.then]
  clear hFa
  go_wp2_with fail
  have HB8 := hid (show Below w7.heap.size w7 w7.drew from below_self w7)
  generalize w7.drew = w8 at *
  clear hpos hnn hlen0 hS u0 u1 k0 k1 k2 hse hse2
  go_loopw [12] (fun iv W => ∃ k : Nat, k ≤ l1.length ∧ iv = .int .i64 (k : Int) ∧ Below w7.heap.size w7 W) (fun iv _ => l1.length - (intOf iv).toNat)
  case atStart => exact ⟨0, Nat.zero_le _, rfl, HB8.out⟩
  case round =>
    obtain ⟨k, hk, rfl, hb⟩ := hrel
    obtain ⟨wo, rfl⟩ : ∃ wo : World, wo = wr := ⟨_, rfl⟩
    have HBW := hid hb
    clear hb
    by_cases hlt : k < l1.length
    · have hcell := (H67.out.trans (HBW.out.mono H67.out.size) |>.cell (p := ⟨bl, ol + k, none⟩) HRL.out).trans (HCL.out k hlt)
      obtain ⟨ok1, ok2⟩ := HL6.out _ (List.getElem_mem hlt)
      generalize l1[k] = s at *
      have HCB := hid (fun c W => show Calls Tryd.prog 22 #[.string ⟨s.toArray⟩, .string ⟨#[c]⟩] W fun e w' => e = .returned (.bool (decide (0 ≤ Lib.indexByte s c))) ∧ w' = W from Tryd.strings_Contains_one ⟨s.toArray⟩ c W)
      have HC1 := hid (fun W => show Calls Tryd.prog 22 #[.string ⟨s.toArray⟩, .string ⟨#[10]⟩] W fun e w' => e = .returned (.bool false) ∧ w' = W from by
        have h := HCB.out 10 W
        rw [lineOk_byte ok1] at h; exact h)
      have HC2 := hid (fun W (hW : W.cell? ⟨2, 0, none⟩ = some (.int .i64 mx)) => show Calls Tryd.prog 22 #[.string ⟨s.toArray⟩, .string ⟨#[32, 32]⟩] W fun e w' => e = .returned (.bool false) ∧ w' = W from by
        have h := Tryd.strings_Contains ⟨s.toArray⟩ ⟨#[32, 32]⟩ mx W (by show s.toArray.size < 4294967281; simp; omega) hW
        have e : Lib.contains (⟨s.toArray⟩ : ByteArray).data.toList (⟨#[32, 32]⟩ : ByteArray).data.toList = false := by
          show decide (0 ≤ Lib.index s [32, 32]) = false
          rw [lineOk_index ok1]; rfl
        rw [e] at h; exact h)
      have HSF := hid (fun W => show Calls Tryd.prog 23 #[.string ⟨s.toArray⟩, .string ⟨#[32]⟩] W fun e w' => e = .returned (.bool false) ∧ w' = W from by
        have h := Tryd.strings_HasSuffix ⟨s.toArray⟩ ⟨#[32]⟩ W (by show s.toArray.size ≤ 9223372036854775807; simp; omega)
        have e : Lib.hasSuffix (⟨s.toArray⟩ : ByteArray).data.toList (⟨#[32]⟩ : ByteArray).data.toList = false := lineOk_suffix ok1
        rw [e] at h; exact h)
      have hmw := HB7.out.trans (HBW.out.mono HB7.out.size) |>.cell (p := ⟨2, 0, none⟩) (cell_size HMX.out) |>.trans HMX.out
      have HMW := hid hmw
      have hk63 : (k : Int) + 1 ≤ 9223372036854775807 := by omega
      clear HCB ok1 hmw
      go_wp2_with (first
        | (go_at_call 22; (first | with_reducible refine (HC1.out _).mono ?_ | with_reducible refine (HC2.out _ HMW.out).mono ?_); rintro e w9 ⟨rfl, rfl⟩)
        | (go_at_call 23; with_reducible refine (HSF.out _).mono ?_; rintro e w9 ⟨rfl, rfl⟩))
      go_roundw
      case rel => exact ⟨k + 1, by omega, by go_num, HBW.out⟩
      case measure => simp [intOf]; omega
    · obtain rfl : k = l1.length := by omega
      have HTW := hid (HT7.out.below HBW.out)
      go_wp2_with (go_at_call 11; with_reducible refine (awake_any _ HTW.out).mono ?_; rintro e w9 ⟨rfl, hb9⟩; have HB9 := hid hb9; clear hb9)
      go_ret
      exact ⟨rfl, HB7.out.trans ((HBW.out.trans (HB9.out.mono HBW.out.size)).mono HB7.out.size)⟩

theorem counts_walk (v : Vd) (pA : Option Addr) (cA : Nat) (pB : Option Addr) (cB : Nat) (lv ch mx : Int) (w : World) (hv : VdOk v) (hvA : NLL (fun i => i < w.heap.size) w (.slice pA v.A.length cA) v.A) (hvB : NLL (fun i => i < w.heap.size) w (.slice pB v.B.length cB) v.B) (lvA : ∀ y ∈ v.A, y.length ≤ 17592186044415) (lvB : ∀ y ∈ v.B, y.length ≤ 17592186044415)
    (hlv : -9223372036854775808 ≤ lv ∧ lv ≤ 9223372036854775807) (hch : -9223372036854775808 ≤ ch ∧ ch ≤ 9223372036854775807) (hmx : w.cell? ⟨2, 0, none⟩ = some (.int .i64 mx)) (ht : Tabs w) :
    Calls Tryd.prog 8 #[.agg #[.int .u8 (v.kind : Int), .int .u8 (v.reason : Int), .int .i64 v.level, .slice pA v.A.length cA, .slice pB v.B.length cB, .bool v.imp, .bool v.pol, .int .i64 v.line, .int .i64 v.col, .int .i64 v.err], .int .i64 lv, .int .i64 ch] w fun e w' => e = .returned (.bool true) ∧ Below w.heap.size w w' := by
  obtain ⟨q, hq⟩ : ∃ q : Nat, lv % 5 = (q : Int) := ⟨(lv % 5).toNat, by omega⟩
  obtain ⟨n, hn⟩ : ∃ n : Nat, ch % 5 = (n : Int) := ⟨(ch % 5).toNat, by omega⟩
  obtain ⟨x, hx⟩ : ∃ x, madeV v (1 + q) n = x := ⟨_, rfl⟩
  have hxm : Mv (1 + q) n x := by rw [← hx]; exact made_mv v (1 + q) n (by omega)
  have hk3 : x.kind = 0 ∨ x.kind = 1 ∨ x.kind = 2 ∨ x.kind = 3 := by cases hxm <;> simp
  obtain hk | hk | hk | hk := hk3
  · exact counts_0 v pA pB cA cB lv ch mx w (1 + q) n x hx hk hv hvA hvB lvA lvB q hq hn rfl hlv hch ht hmx
  · exact counts_1 v pA pB cA cB lv ch mx w (1 + q) n x hx hk hv hvA hvB lvA lvB q hq hn rfl hlv hch ht hmx
  · exact counts_2 v pA pB cA cB lv ch mx w (1 + q) n x hx hk hv hvA hvB lvA lvB q hq hn rfl hlv hch ht hmx
  · exact counts_3 v pA pB cA cB lv ch mx w (1 + q) n x hx hk hv hvA hvB lvA lvB q hq hn rfl hlv hch ht hmx

end Go.Proofs.YtehjfmbnebeioaaDoor
