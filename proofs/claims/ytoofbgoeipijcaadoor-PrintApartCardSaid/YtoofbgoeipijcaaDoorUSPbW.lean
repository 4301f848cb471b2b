/-
 The law PrintApart.
-/
import Derived.Test.YtoofbgoeipijcaaDoorUB37
import Derived.Test.YtoofbgoeipijcaaDoorUSPcG
import Derived.Test.YtoofbgoeipijcaaDoorUB43
import Derived.Test.YtoofbgoeipijcaaDoorUSPcC
import Derived.Test.YtoofbgoeipijcaaDoorUSPeB
import Derived.Test.YtoofbgoeipijcaaDoorUSPqW
import Derived.Test.YtoofbgoeipijcaaDoorUSPpW
import Derived.Test.YtoofbgoeipijcaaDoorUSPgP
import Derived.Deep.DeepCutAuto
namespace Go.Proofs.YtoofbgoeipijcaaDoor
set_option linter.unusedSimpArgs false
set_option linter.unusedVariables false
open Go.RowKit Go.Shelf
attribute [local go_sem] Oper.semAt_some

theorem args_ofA {p : Pg} (h : QP p) : ArgsOk p := ⟨fun f hf x hx => ((h.2.2.2.1 f hf).2.2.1 x hx).2.2.2.2.1, fun x hx => (h.2.2.2.2 x hx).2.2.2.2.1⟩
theorem print_w (q : Pg) (W : Int) (hW : q.width = W) (a b c d : Value) (w : World) (hE : PrE w) (hp : PgV (· < w.heap.size) w a b c d q) (hok : PgOk q) (hn : NumP q) :
  Calls Tryd.prog 13 #[.agg #[.int .i64 W, a, b, c, d]] w fun e w' => e = .returned (.tuple #[.string ⟨(printM q).1.toArray⟩, .int .i64 (printM q).2]) ∧ Below w.heap.size w w' := by
 rw [← hW]; exact print_any q a b c d w hE hp hok hn
theorem bare_w (q : Pg) (W : Int) (hW : q.width = W) (a b c d : Value) (w : World) (hp : PgV (· < w.heap.size) w a b c d q) (hl : LenP q) :
  Calls Tryd.prog 14 #[.agg #[.int .i64 W, a, b, c, d]] w fun e w' => ∃ qa xa qb xb qc xc qd xd, e = .returned (.agg #[.int .i64 W, .slice qa q.chans.length xa, .slice qb q.arrays.length xb, .slice qc q.funcs.length xc, .slice qd q.main.length xd]) ∧ (∃ p' : Pg, p'.width = q.width ∧ p'.chans = q.chans ∧ p'.arrays = q.arrays ∧ p'.funcs.length = q.funcs.length ∧ p'.main.length = q.main.length ∧ PgV (fun k => w.heap.size ≤ k ∧ k < w'.heap.size) w' (.slice qa q.chans.length xa) (.slice qb q.arrays.length xb) (.slice qc q.funcs.length xc) (.slice qd q.main.length xd) p' ∧ bareP p' = bareP q) ∧ Below w.heap.size w w' := by
 rw [← hW]; exact bare_any q a b c d w hp hl
theorem equal_w (p q : Pg) (V W : Int) (hV : p.width = V) (hW : q.width = W) (a b c d a' b' c' d' : Value) (w : World) (hp : PgV (· < w.heap.size) w a b c d p) (hq : PgV (· < w.heap.size) w a' b' c' d' q) :
  Calls Tryd.prog 15 #[.agg #[.int .i64 V, a, b, c, d], .agg #[.int .i64 W, a', b', c', d']] w fun e w' => e = .returned (.bool (decide (bareP p = bareP q))) ∧ Below w.heap.size w w' := by
 rw [← hV, ← hW]; exact equal_any p q a b c d a' b' c' d' w hp hq
set_option maxRecDepth 100000 in
set_option maxHeartbeats 8000000 in
/-- The law PrintApart. -/
theorem printApart_any (p r : Pg) (a b c d a' b' c' d' : Value) (w : World) (hp : PgV (· < w.heap.size) w a b c d p) (hr : PgV (· < w.heap.size) w a' b' c' d' r) (hq : QP p) (hqr : QP r) (hE : PrE w) :
  Calls Tryd.prog 4 #[.agg #[.int .i64 p.width, a, b, c, d], .agg #[.int .i64 r.width, a', b', c', d']] w fun e w' => e = .returned (.bool true) ∧ Below w.heap.size w w' := by
 obtain ⟨pa, xa, hva⟩ := hp.1.slc
 obtain ⟨pb, xb, hvb⟩ := hp.2.1.slc
 obtain ⟨pc, xc, hvc⟩ := hp.2.2.1.slc
 obtain ⟨pd, xd, hvd⟩ := hp.2.2.2.slc
 obtain ⟨ra, ya, hwa⟩ := hr.1.slc
 obtain ⟨rb, yb, hwb⟩ := hr.2.1.slc
 obtain ⟨rc, yc, hwc⟩ := hr.2.2.1.slc
 obtain ⟨rd, yd, hwd⟩ := hr.2.2.2.slc
 subst hva hvb hvc hvd hwa hwb hwc hwd
 obtain ⟨hok, hnum⟩ := few_ok hq
 obtain ⟨hokr, hnumr⟩ := few_ok hqr
 have HA := hid (args_ofA hq); have HAR := hid (args_ofA hqr)
 have hlq := few_lenP p
 obtain ⟨q, hqq⟩ : ∃ q, fewP p = q := ⟨_, rfl⟩
 obtain ⟨s, hss⟩ : ∃ s, fewP r = s := ⟨_, rfl⟩
 have HQW := hid (show q.width = p.width from by rw [← hqq]; rfl)
 have HSW := hid (show s.width = r.width from by rw [← hss]; rfl)
 rw [hqq] at hok hnum hlq
 rw [hss] at hokr hnumr
 have HQ := hid hqq; have HS := hid hss; have HP := hid hp; have HR := hid hr; have HE := hid hE; have HOK := hid hok; have HNU := hid hnum; have HOKR := hid hokr; have HNUR := hid hnumr; have HLQ := hid hlq
 clear hqq hss hp hr hq hqr hE hok hnum hokr hnumr hlq
 go_enter Tryd.func4, Tryd.ntmps4
 go_upto_region 1 with fail
 obtain ⟨w2, hw2⟩ : ∃ W, (w.alloc (.cells #[.int .i64 p.width, .slice pa p.chans.length xa, .slice pb p.arrays.length xb, .slice pc p.funcs.length xc, .slice pd p.main.length xd] 40)).alloc (.cells #[.int .i64 r.width, .slice ra r.chans.length ya, .slice rb r.arrays.length yb, .slice rc r.funcs.length yc, .slice rd r.main.length yd] 40) = W := ⟨_, rfl⟩
 have HXD := hid (show BxL 40 w.heap.size [.int .i64 p.width, .slice pa p.chans.length xa, .slice pb p.arrays.length xb, .slice pc p.funcs.length xc, .slice pd p.main.length xd] w2.drew from by rw [← hw2]; exact (BxL.new _ _ _).al _)
 have HYD := hid (show BxL 40 (w.heap.size + 1) [.int .i64 r.width, .slice ra r.chans.length ya, .slice rb r.arrays.length yb, .slice rc r.funcs.length yc, .slice rd r.main.length yd] w2.drew from by rw [← hw2]; have h9 := BxL.new 40 (w.alloc (.cells #[.int .i64 p.width, .slice pa p.chans.length xa, .slice pb p.arrays.length xb, .slice pc p.funcs.length xc, .slice pd p.main.length xd] 40)) [.int .i64 r.width, .slice ra r.chans.length ya, .slice rb r.arrays.length yb, .slice rc r.funcs.length yc, .slice rd r.main.length yd]; rw [World.size_alloc] at h9; exact h9)
 have HBD := hid (show Below w.heap.size w w2.drew from by rw [← hw2]; exact (((Below.refl _ _).alloc (Nat.le_refl _) _).alloc (by rw [World.size_alloc]; omega) _).trans (Below.refl _ _).drew)
 have HZD := hid (show w2.drew.heap.size = w.heap.size + 2 from by rw [← hw2]; show ((w.alloc _).alloc _).heap.size = _; rw [World.size_alloc, World.size_alloc])
 rw [hw2]
 clear hw2
 have hS : (fun W => W.cell? ⟨w.heap.size + 1, 0, none⟩ = some (.int .i64 r.width) ∧ W.cell? ⟨w.heap.size + 1, 1, none⟩ = some (.slice ra r.chans.length ya) ∧ W.cell? ⟨w.heap.size + 1, 2, none⟩ = some (.slice rb r.arrays.length yb) ∧ W.cell? ⟨w.heap.size + 1, 3, none⟩ = some (.slice rc r.funcs.length yc) ∧ W.cell? ⟨w.heap.size + 1, 4, none⟩ = some (.slice rd r.main.length yd)) w2.drew := ⟨HYD.out.at 0 rfl, HYD.out.at 1 rfl, HYD.out.at 2 rfl, HYD.out.at 3 rfl, HYD.out.at 4 rfl⟩
 have n0 : w2.drew.cell? ⟨w.heap.size, 0, none⟩ = some (.int .i64 p.width) := HXD.out.at 0 rfl
 have n1 : w2.drew.cell? ⟨w.heap.size, 1, none⟩ = some (.slice pa p.chans.length xa) := HXD.out.at 1 rfl
 have n2 : w2.drew.cell? ⟨w.heap.size, 2, none⟩ = some (.slice pb p.arrays.length xb) := HXD.out.at 2 rfl
 have n3 : w2.drew.cell? ⟨w.heap.size, 3, none⟩ = some (.slice pc p.funcs.length xc) := HXD.out.at 3 rfl
 have n4 : w2.drew.cell? ⟨w.heap.size, 4, none⟩ = some (.slice pd p.main.length xd) := HXD.out.at 4 rfl
 have hFa : ∀ f, Fence.wide.fn f := fun _ => trivial
 refine (wpIn_wide (n := 9)).1 ?_
 refine wpIn_onlyN ?_
 refine wpIn_region_HJ (fun W => W.cell? ⟨w.heap.size + 1, 0, none⟩ = some (.int .i64 r.width) ∧ W.cell? ⟨w.heap.size + 1, 1, none⟩ = some (.slice ra r.chans.length ya) ∧ W.cell? ⟨w.heap.size + 1, 2, none⟩ = some (.slice rb r.arrays.length yb) ∧ W.cell? ⟨w.heap.size + 1, 3, none⟩ = some (.slice rc r.funcs.length yc) ∧ W.cell? ⟨w.heap.size + 1, 4, none⟩ = some (.slice rd r.main.length yd)) 5 (by kernel_rfl) ?_
 simp only [List.size_toArray, List.length_cons, List.length_nil, Nat.reduceAdd]
 refine wpHJ_take (v := ?vkh2) 2 hFa rfl (by kernel_rfl) (fun _ _ _ h => h.elim) (Or.inl ⟨by rfl, ?ykh2⟩) hS ?rkh2
 case ykh2 => (intro w' hS'; obtain ⟨s0, s1, s2, s3, s4⟩ := hS'; go_simp; try rfl)
 simp only [Act.put, actP]
 refine wpHJ_only 0 (by kernel_rfl) rfl ?_
 intro K hK
 go_simp
 refine hK _ _ (.inr (.inr ⟨HYD.out.at 0 rfl, HYD.out.at 1 rfl, HYD.out.at 2 rfl, HYD.out.at 3 rfl, HYD.out.at 4 rfl⟩)) ?_
 clear hK K
 refine wpHJ_only 1 (by kernel_rfl) rfl ?_
 intro K hK
 go_simp
 (refine (callsIn_wide.2 (pgfew_any p _ _ _ _ _ (HP.out.below HBD.out) HA.out)).mono ?_)
 rintro e wa ⟨a1, b1, c1, d1, rfl, hg, hb⟩
 rw [HQ.out] at hg
 obtain ⟨qa, za, h1⟩ := hg.1.slc
 obtain ⟨qb, zb, h2⟩ := hg.2.1.slc
 obtain ⟨qc, zc, h3⟩ := hg.2.2.1.slc
 obtain ⟨qd, zd, h4⟩ := hg.2.2.2.slc
 subst h1 h2 h3 h4
 have HG1 := hid hg
 have HB1 := hid (HBD.out.trans (hb.mono HBD.out.size))
 have HX1 := hid (HXD.out.bel hb)
 have HY1 := hid (HYD.out.bel hb)
 have HZ1 := hid hb.size
 clear hg hb
 refine hK _ _ (.inr (.inr ⟨HY1.out.at 0 rfl, HY1.out.at 1 rfl, HY1.out.at 2 rfl, HY1.out.at 3 rfl, HY1.out.at 4 rfl⟩)) ?_
 clear hK K
 refine wpHJ_only 3 (by kernel_rfl) rfl ?_
 intro K hK
 go_simp
 (refine (callsIn_wide.2 (pgfew_any r _ _ _ _ _ (HR.out.below HB1.out) HAR.out)).mono ?_)
 rintro e wb ⟨a1, b1, c1, d1, rfl, hg, hb⟩
 rw [HS.out] at hg
 obtain ⟨sa, ua, h1⟩ := hg.1.slc
 obtain ⟨sb, ub, h2⟩ := hg.2.1.slc
 obtain ⟨sc, uc, h3⟩ := hg.2.2.1.slc
 obtain ⟨sd, ud, h4⟩ := hg.2.2.2.slc
 subst h1 h2 h3 h4
 have HG2 := hid hg
 have HB2 := hid (HB1.out.trans (hb.mono HB1.out.size))
 have HX2 := hid (HX1.out.bel hb)
 have HY2 := hid (HY1.out.bel hb)
 have HZ2 := hid hb.size
 have HG12 := hid (HG1.out.keep fun k hk => ⟨hk, hb.block k hk.2⟩)
 clear hg hb
 have c0 : wb.cell? ⟨w.heap.size, 0, none⟩ = some (.int .i64 p.width) := HX2.out.at 0 rfl
 have c1 : wb.cell? ⟨w.heap.size, 1, none⟩ = some (.slice pa p.chans.length xa) := HX2.out.at 1 rfl
 have c2 : wb.cell? ⟨w.heap.size, 2, none⟩ = some (.slice pb p.arrays.length xb) := HX2.out.at 2 rfl
 have c3 : wb.cell? ⟨w.heap.size, 3, none⟩ = some (.slice pc p.funcs.length xc) := HX2.out.at 3 rfl
 have c4 : wb.cell? ⟨w.heap.size, 4, none⟩ = some (.slice pd p.main.length xd) := HX2.out.at 4 rfl
 have f0 : wb.frozen? ⟨w.heap.size, 0, none⟩ = false := HX2.out.fr 0
 have f1 : wb.frozen? ⟨w.heap.size, 1, none⟩ = false := HX2.out.fr 1
 have f2 : wb.frozen? ⟨w.heap.size, 2, none⟩ = false := HX2.out.fr 2
 have f3 : wb.frozen? ⟨w.heap.size, 3, none⟩ = false := HX2.out.fr 3
 have f4 : wb.frozen? ⟨w.heap.size, 4, none⟩ = false := HX2.out.fr 4
 have d0 : ∀ v0 v1 v2 v3 v4, (((((wb.setCell ⟨w.heap.size, 0, none⟩ (v0)).setCell ⟨w.heap.size, 1, none⟩ (v1)).setCell ⟨w.heap.size, 2, none⟩ (v2)).setCell ⟨w.heap.size, 3, none⟩ (v3)).setCell ⟨w.heap.size, 4, none⟩ (v4)).cell? ⟨w.heap.size + 1, 0, none⟩ = some (.int .i64 r.width) := fun v0 v1 v2 v3 v4 => BxL.at (t := 40) (cs := [.int .i64 r.width, .slice ra r.chans.length ya, .slice rb r.arrays.length yb, .slice rc r.funcs.length yc, .slice rd r.main.length yd]) (HY2.out.keep (by rw [heap_ot (by omega), heap_ot (by omega), heap_ot (by omega), heap_ot (by omega), heap_ot (by omega)])) 0 rfl
 have g0 : ∀ v0 v1 v2 v3 v4, (((((wb.setCell ⟨w.heap.size, 0, none⟩ (v0)).setCell ⟨w.heap.size, 1, none⟩ (v1)).setCell ⟨w.heap.size, 2, none⟩ (v2)).setCell ⟨w.heap.size, 3, none⟩ (v3)).setCell ⟨w.heap.size, 4, none⟩ (v4)).frozen? ⟨w.heap.size + 1, 0, none⟩ = false := fun v0 v1 v2 v3 v4 => BxL.fr (t := 40) (cs := [.int .i64 r.width, .slice ra r.chans.length ya, .slice rb r.arrays.length yb, .slice rc r.funcs.length yc, .slice rd r.main.length yd]) (HY2.out.keep (by rw [heap_ot (by omega), heap_ot (by omega), heap_ot (by omega), heap_ot (by omega), heap_ot (by omega)])) 0
 have d1 : ∀ v0 v1 v2 v3 v4, (((((wb.setCell ⟨w.heap.size, 0, none⟩ (v0)).setCell ⟨w.heap.size, 1, none⟩ (v1)).setCell ⟨w.heap.size, 2, none⟩ (v2)).setCell ⟨w.heap.size, 3, none⟩ (v3)).setCell ⟨w.heap.size, 4, none⟩ (v4)).cell? ⟨w.heap.size + 1, 1, none⟩ = some (.slice ra r.chans.length ya) := fun v0 v1 v2 v3 v4 => BxL.at (t := 40) (cs := [.int .i64 r.width, .slice ra r.chans.length ya, .slice rb r.arrays.length yb, .slice rc r.funcs.length yc, .slice rd r.main.length yd]) (HY2.out.keep (by rw [heap_ot (by omega), heap_ot (by omega), heap_ot (by omega), heap_ot (by omega), heap_ot (by omega)])) 1 rfl
 have g1 : ∀ v0 v1 v2 v3 v4, (((((wb.setCell ⟨w.heap.size, 0, none⟩ (v0)).setCell ⟨w.heap.size, 1, none⟩ (v1)).setCell ⟨w.heap.size, 2, none⟩ (v2)).setCell ⟨w.heap.size, 3, none⟩ (v3)).setCell ⟨w.heap.size, 4, none⟩ (v4)).frozen? ⟨w.heap.size + 1, 1, none⟩ = false := fun v0 v1 v2 v3 v4 => BxL.fr (t := 40) (cs := [.int .i64 r.width, .slice ra r.chans.length ya, .slice rb r.arrays.length yb, .slice rc r.funcs.length yc, .slice rd r.main.length yd]) (HY2.out.keep (by rw [heap_ot (by omega), heap_ot (by omega), heap_ot (by omega), heap_ot (by omega), heap_ot (by omega)])) 1
 have d2 : ∀ v0 v1 v2 v3 v4, (((((wb.setCell ⟨w.heap.size, 0, none⟩ (v0)).setCell ⟨w.heap.size, 1, none⟩ (v1)).setCell ⟨w.heap.size, 2, none⟩ (v2)).setCell ⟨w.heap.size, 3, none⟩ (v3)).setCell ⟨w.heap.size, 4, none⟩ (v4)).cell? ⟨w.heap.size + 1, 2, none⟩ = some (.slice rb r.arrays.length yb) := fun v0 v1 v2 v3 v4 => BxL.at (t := 40) (cs := [.int .i64 r.width, .slice ra r.chans.length ya, .slice rb r.arrays.length yb, .slice rc r.funcs.length yc, .slice rd r.main.length yd]) (HY2.out.keep (by rw [heap_ot (by omega), heap_ot (by omega), heap_ot (by omega), heap_ot (by omega), heap_ot (by omega)])) 2 rfl
 have g2 : ∀ v0 v1 v2 v3 v4, (((((wb.setCell ⟨w.heap.size, 0, none⟩ (v0)).setCell ⟨w.heap.size, 1, none⟩ (v1)).setCell ⟨w.heap.size, 2, none⟩ (v2)).setCell ⟨w.heap.size, 3, none⟩ (v3)).setCell ⟨w.heap.size, 4, none⟩ (v4)).frozen? ⟨w.heap.size + 1, 2, none⟩ = false := fun v0 v1 v2 v3 v4 => BxL.fr (t := 40) (cs := [.int .i64 r.width, .slice ra r.chans.length ya, .slice rb r.arrays.length yb, .slice rc r.funcs.length yc, .slice rd r.main.length yd]) (HY2.out.keep (by rw [heap_ot (by omega), heap_ot (by omega), heap_ot (by omega), heap_ot (by omega), heap_ot (by omega)])) 2
 have d3 : ∀ v0 v1 v2 v3 v4, (((((wb.setCell ⟨w.heap.size, 0, none⟩ (v0)).setCell ⟨w.heap.size, 1, none⟩ (v1)).setCell ⟨w.heap.size, 2, none⟩ (v2)).setCell ⟨w.heap.size, 3, none⟩ (v3)).setCell ⟨w.heap.size, 4, none⟩ (v4)).cell? ⟨w.heap.size + 1, 3, none⟩ = some (.slice rc r.funcs.length yc) := fun v0 v1 v2 v3 v4 => BxL.at (t := 40) (cs := [.int .i64 r.width, .slice ra r.chans.length ya, .slice rb r.arrays.length yb, .slice rc r.funcs.length yc, .slice rd r.main.length yd]) (HY2.out.keep (by rw [heap_ot (by omega), heap_ot (by omega), heap_ot (by omega), heap_ot (by omega), heap_ot (by omega)])) 3 rfl
 have g3 : ∀ v0 v1 v2 v3 v4, (((((wb.setCell ⟨w.heap.size, 0, none⟩ (v0)).setCell ⟨w.heap.size, 1, none⟩ (v1)).setCell ⟨w.heap.size, 2, none⟩ (v2)).setCell ⟨w.heap.size, 3, none⟩ (v3)).setCell ⟨w.heap.size, 4, none⟩ (v4)).frozen? ⟨w.heap.size + 1, 3, none⟩ = false := fun v0 v1 v2 v3 v4 => BxL.fr (t := 40) (cs := [.int .i64 r.width, .slice ra r.chans.length ya, .slice rb r.arrays.length yb, .slice rc r.funcs.length yc, .slice rd r.main.length yd]) (HY2.out.keep (by rw [heap_ot (by omega), heap_ot (by omega), heap_ot (by omega), heap_ot (by omega), heap_ot (by omega)])) 3
 have d4 : ∀ v0 v1 v2 v3 v4, (((((wb.setCell ⟨w.heap.size, 0, none⟩ (v0)).setCell ⟨w.heap.size, 1, none⟩ (v1)).setCell ⟨w.heap.size, 2, none⟩ (v2)).setCell ⟨w.heap.size, 3, none⟩ (v3)).setCell ⟨w.heap.size, 4, none⟩ (v4)).cell? ⟨w.heap.size + 1, 4, none⟩ = some (.slice rd r.main.length yd) := fun v0 v1 v2 v3 v4 => BxL.at (t := 40) (cs := [.int .i64 r.width, .slice ra r.chans.length ya, .slice rb r.arrays.length yb, .slice rc r.funcs.length yc, .slice rd r.main.length yd]) (HY2.out.keep (by rw [heap_ot (by omega), heap_ot (by omega), heap_ot (by omega), heap_ot (by omega), heap_ot (by omega)])) 4 rfl
 have g4 : ∀ v0 v1 v2 v3 v4, (((((wb.setCell ⟨w.heap.size, 0, none⟩ (v0)).setCell ⟨w.heap.size, 1, none⟩ (v1)).setCell ⟨w.heap.size, 2, none⟩ (v2)).setCell ⟨w.heap.size, 3, none⟩ (v3)).setCell ⟨w.heap.size, 4, none⟩ (v4)).frozen? ⟨w.heap.size + 1, 4, none⟩ = false := fun v0 v1 v2 v3 v4 => BxL.fr (t := 40) (cs := [.int .i64 r.width, .slice ra r.chans.length ya, .slice rb r.arrays.length yb, .slice rc r.funcs.length yc, .slice rd r.main.length yd]) (HY2.out.keep (by rw [heap_ot (by omega), heap_ot (by omega), heap_ot (by omega), heap_ot (by omega), heap_ot (by omega)])) 4
 refine hK _ _ (.inr (.inr ⟨HY2.out.at 0 rfl, HY2.out.at 1 rfl, HY2.out.at 2 rfl, HY2.out.at 3 rfl, HY2.out.at 4 rfl⟩)) ?_
 clear hK K
 refine wpHJ_only 4 (by kernel_rfl) rfl ?_
 intro K hK
 go_simp
 refine hK _ _ (.inr (.inr ⟨d0 _ _ _ _ _, d1 _ _ _ _ _, d2 _ _ _ _ _, d3 _ _ _ _ _, d4 _ _ _ _ _⟩)) ?_
 clear hK K
 refine wpHJ_only 5 (by kernel_rfl) rfl ?_
 intro K hK
 go_simp
 refine hK _ _ (.inl rfl) ?_
 clear hK K
 refine wpHJ_done (by kernel_rfl) ?_ _
 simp only [onlyN, Exit.then]
 clear hFa
 clear hS c0 f0 d0 g0 c1 f1 d1 g1 c2 f2 d2 g2 c3 f3 d3 g3 c4 f4 d4 g4 n0 n1 n2 n3 n4
 obtain ⟨w3, hw3⟩ : ∃ W, (((((((((wb.setCell ⟨w.heap.size, 0, none⟩ (.int .i64 p.width)).setCell ⟨w.heap.size, 1, none⟩ (.slice qa q.chans.length za)).setCell ⟨w.heap.size, 2, none⟩ (.slice qb q.arrays.length zb)).setCell ⟨w.heap.size, 3, none⟩ (.slice qc q.funcs.length zc)).setCell ⟨w.heap.size, 4, none⟩ (.slice qd q.main.length zd)).setCell ⟨w.heap.size + 1, 0, none⟩ (.int .i64 r.width)).setCell ⟨w.heap.size + 1, 1, none⟩ (.slice sa s.chans.length ua)).setCell ⟨w.heap.size + 1, 2, none⟩ (.slice sb s.arrays.length ub)).setCell ⟨w.heap.size + 1, 3, none⟩ (.slice sc s.funcs.length uc)).setCell ⟨w.heap.size + 1, 4, none⟩ (.slice sd s.main.length ud) = W := ⟨_, rfl⟩
 have HX3 := hid (show BxL 40 w.heap.size [.int .i64 p.width, .slice qa q.chans.length za, .slice qb q.arrays.length zb, .slice qc q.funcs.length zc, .slice qd q.main.length zd] w3 from by rw [← hw3]; exact BxL.keep (((((HX2.out.set 0 _).set 1 _).set 2 _).set 3 _).set 4 _) (by rw [heap_ot (by omega), heap_ot (by omega), heap_ot (by omega), heap_ot (by omega), heap_ot (by omega)]))
 have HY3 := hid (show BxL 40 (w.heap.size + 1) [.int .i64 r.width, .slice sa s.chans.length ua, .slice sb s.arrays.length ub, .slice sc s.funcs.length uc, .slice sd s.main.length ud] w3 from by rw [← hw3]; exact (((((BxL.keep HY2.out (by rw [heap_ot (by omega), heap_ot (by omega), heap_ot (by omega), heap_ot (by omega), heap_ot (by omega)])).set 0 _).set 1 _).set 2 _).set 3 _).set 4 _)
 have hk3 : ∀ j, j ≠ w.heap.size → j ≠ w.heap.size + 1 → w3.heap[j]? = wb.heap[j]? := fun j h1 h2 => by rw [← hw3, heap_ot h2, heap_ot h2, heap_ot h2, heap_ot h2, heap_ot h2, heap_ot h1, heap_ot h1, heap_ot h1, heap_ot h1, heap_ot h1]
 have HB3 := hid (show Below w.heap.size w w3 from by rw [← hw3]; exact (((((((((HB2.out.setCell (p := ⟨w.heap.size, 0, none⟩) (Nat.le_refl _) _).setCell (p := ⟨w.heap.size, 1, none⟩) (Nat.le_refl _) _).setCell (p := ⟨w.heap.size, 2, none⟩) (Nat.le_refl _) _).setCell (p := ⟨w.heap.size, 3, none⟩) (Nat.le_refl _) _).setCell (p := ⟨w.heap.size, 4, none⟩) (Nat.le_refl _) _).setCell (p := ⟨w.heap.size + 1, 0, none⟩) (Nat.le_succ _) _).setCell (p := ⟨w.heap.size + 1, 1, none⟩) (Nat.le_succ _) _).setCell (p := ⟨w.heap.size + 1, 2, none⟩) (Nat.le_succ _) _).setCell (p := ⟨w.heap.size + 1, 3, none⟩) (Nat.le_succ _) _).setCell (p := ⟨w.heap.size + 1, 4, none⟩) (Nat.le_succ _) _)
 have hs3 : w3.heap.size = wb.heap.size := by rw [← hw3]; simp only [World.size_setCell]
 have HG3 := hid (show PgV (· < w3.heap.size) w3 (.slice qa q.chans.length za) (.slice qb q.arrays.length zb) (.slice qc q.funcs.length zc) (.slice qd q.main.length zd) q from HG12.out.keep fun k hk => by
  have h1 := HZD.out; have h2 := HZ1.out; have h3 := HZ2.out; have h4 : w2.drew.heap.size ≤ k ∧ k < wa.heap.size := hk
  exact ⟨by show k < w3.heap.size; omega, hk3 k (by omega) (by omega)⟩)
 have HK3 := hid (show PgV (· < w3.heap.size) w3 (.slice sa s.chans.length ua) (.slice sb s.arrays.length ub) (.slice sc s.funcs.length uc) (.slice sd s.main.length ud) s from HG2.out.keep fun k hk => by
  have h1 := HZD.out; have h2 := HZ1.out; have h3 := HZ2.out; have h4 : wa.heap.size ≤ k ∧ k < wb.heap.size := hk
  exact ⟨by show k < w3.heap.size; omega, hk3 k (by omega) (by omega)⟩)
 rw [hw3]
 clear hw3 hk3 hs3
 obtain ⟨S, E, hSE⟩ : ∃ S E, printM q = (S, E) := ⟨_, _, rfl⟩
 obtain ⟨T, G, hTG⟩ : ∃ S E, printM s = (S, E) := ⟨_, _, rfl⟩
 have HSE := hid hSE; have HTG := hid hTG
 clear hSE hTG
 have n0 : w3.cell? ⟨w.heap.size, 0, none⟩ = some (.int .i64 p.width) := HX3.out.at 0 rfl
 have n1 : w3.cell? ⟨w.heap.size, 1, none⟩ = some (.slice qa q.chans.length za) := HX3.out.at 1 rfl
 have n2 : w3.cell? ⟨w.heap.size, 2, none⟩ = some (.slice qb q.arrays.length zb) := HX3.out.at 2 rfl
 have n3 : w3.cell? ⟨w.heap.size, 3, none⟩ = some (.slice qc q.funcs.length zc) := HX3.out.at 3 rfl
 have n4 : w3.cell? ⟨w.heap.size, 4, none⟩ = some (.slice qd q.main.length zd) := HX3.out.at 4 rfl
 go_upto_region 3 with (go_at_call 13; (refine (print_w q _ HQW.out _ _ _ _ _ (HE.out.below HB3.out) HG3.out HOK.out HNU.out).mono ?_); rintro e wc ⟨rfl, hb⟩; rw [HSE.out]; have HBC := hid (HB3.out.trans (hb.mono HB3.out.size)); have HXC := hid (HX3.out.bel hb); have HYC := hid (HY3.out.bel hb); have HGC := hid (HG3.out.below hb); have HKC := hid (HK3.out.below hb); clear hb)
 clear n0 n1 n2 n3 n4
 have m0 : wc.cell? ⟨w.heap.size + 1, 0, none⟩ = some (.int .i64 r.width) := HYC.out.at 0 rfl
 have m1 : wc.cell? ⟨w.heap.size + 1, 1, none⟩ = some (.slice sa s.chans.length ua) := HYC.out.at 1 rfl
 have m2 : wc.cell? ⟨w.heap.size + 1, 2, none⟩ = some (.slice sb s.arrays.length ub) := HYC.out.at 2 rfl
 have m3 : wc.cell? ⟨w.heap.size + 1, 3, none⟩ = some (.slice sc s.funcs.length uc) := HYC.out.at 3 rfl
 have m4 : wc.cell? ⟨w.heap.size + 1, 4, none⟩ = some (.slice sd s.main.length ud) := HYC.out.at 4 rfl
 go_upto_region 4 with (go_at_call 13; (refine (print_w s _ HSW.out _ _ _ _ _ (HE.out.below HBC.out) HKC.out HOKR.out HNUR.out).mono ?_); rintro e w4 ⟨rfl, hb⟩; rw [HTG.out]; have HB4 := hid (HBC.out.trans (hb.mono HBC.out.size)); have HX4 := hid (HXC.out.bel hb); have HY4 := hid (HYC.out.bel hb); have HG4 := hid (HGC.out.below hb); have HK4 := hid (HKC.out.below hb); clear hb)
 clear m0 m1 m2 m3 m4
 by_cases hE0 : E = 0
 ·by_cases hG0 : G = 0
  ·subst hE0 hG0
   have HSM := hid (print_same HNU.out HNUR.out HSE.out HTG.out)
   have n0 : w4.cell? ⟨w.heap.size, 0, none⟩ = some (.int .i64 p.width) := HX4.out.at 0 rfl
   have n1 : w4.cell? ⟨w.heap.size, 1, none⟩ = some (.slice qa q.chans.length za) := HX4.out.at 1 rfl
   have n2 : w4.cell? ⟨w.heap.size, 2, none⟩ = some (.slice qb q.arrays.length zb) := HX4.out.at 2 rfl
   have n3 : w4.cell? ⟨w.heap.size, 3, none⟩ = some (.slice qc q.funcs.length zc) := HX4.out.at 3 rfl
   have n4 : w4.cell? ⟨w.heap.size, 4, none⟩ = some (.slice qd q.main.length zd) := HX4.out.at 4 rfl
   have m0 : w4.cell? ⟨w.heap.size + 1, 0, none⟩ = some (.int .i64 r.width) := HY4.out.at 0 rfl
   have m1 : w4.cell? ⟨w.heap.size + 1, 1, none⟩ = some (.slice sa s.chans.length ua) := HY4.out.at 1 rfl
   have m2 : w4.cell? ⟨w.heap.size + 1, 2, none⟩ = some (.slice sb s.arrays.length ub) := HY4.out.at 2 rfl
   have m3 : w4.cell? ⟨w.heap.size + 1, 3, none⟩ = some (.slice sc s.funcs.length uc) := HY4.out.at 3 rfl
   have m4 : w4.cell? ⟨w.heap.size + 1, 4, none⟩ = some (.slice sd s.main.length ud) := HY4.out.at 4 rfl
   by_cases hst : S = T
   ·skip
    have HDE := hid (show decide (bareP q = bareP s) = true from decide_eq_true (HSM.out.1 hst))
    subst hst
    go_wp2_with (first
     | (go_at_call 14; (refine (bare_w q _ HQW.out _ _ _ _ _ HG4.out HLQ.out).mono ?_); rintro e w5 ⟨ma, na, mb, nb, mc, nc, md, nd, rfl, ⟨q', e1, e2, e3, e4, e5, hg, he⟩, hb⟩; have HB5 := hid (HB4.out.trans (hb.mono HB4.out.size)); have HX5 := hid (HX4.out.bel hb); have HY5 := hid (HY4.out.bel hb); have HG5 := hid (HG4.out.below hb); have HK5 := hid (HK4.out.below hb); have HM5 := hid (hg.keep fun k hk => ⟨hk.2, rfl⟩ : PgV (· < w5.heap.size) w5 _ _ _ _ q'); have HW5 := hid (e1.trans HQW.out); have HE5 := hid he; clear hg hb e1 e2 e3 e4 e5 he n0 m0 n1 m1 n2 m2 n3 m3 n4 m4)
     | (go_at_call 13; (refine (print_w q' _ HW5.out _ _ _ _ _ (HE.out.below HB5.out) HM5.out (ok_bare HE5.out HOK.out) (num_bare HE5.out HNU.out)).mono ?_); rintro e w6 ⟨rfl, hb⟩; rw [print_bare HE5.out HNU.out HSE.out]; have HB6 := hid (HB5.out.trans (hb.mono HB5.out.size)); have HX6 := hid (HX5.out.bel hb); have HY6 := hid (HY5.out.bel hb); have HG6 := hid (HG5.out.below hb); have HK6 := hid (HK5.out.below hb); clear hb; have n0 : w6.cell? ⟨w.heap.size, 0, none⟩ = some (.int .i64 p.width) := HX6.out.at 0 rfl; have n1 : w6.cell? ⟨w.heap.size, 1, none⟩ = some (.slice qa q.chans.length za) := HX6.out.at 1 rfl; have n2 : w6.cell? ⟨w.heap.size, 2, none⟩ = some (.slice qb q.arrays.length zb) := HX6.out.at 2 rfl; have n3 : w6.cell? ⟨w.heap.size, 3, none⟩ = some (.slice qc q.funcs.length zc) := HX6.out.at 3 rfl; have n4 : w6.cell? ⟨w.heap.size, 4, none⟩ = some (.slice qd q.main.length zd) := HX6.out.at 4 rfl; have m0 : w6.cell? ⟨w.heap.size + 1, 0, none⟩ = some (.int .i64 r.width) := HY6.out.at 0 rfl; have m1 : w6.cell? ⟨w.heap.size + 1, 1, none⟩ = some (.slice sa s.chans.length ua) := HY6.out.at 1 rfl; have m2 : w6.cell? ⟨w.heap.size + 1, 2, none⟩ = some (.slice sb s.arrays.length ub) := HY6.out.at 2 rfl; have m3 : w6.cell? ⟨w.heap.size + 1, 3, none⟩ = some (.slice sc s.funcs.length uc) := HY6.out.at 3 rfl; have m4 : w6.cell? ⟨w.heap.size + 1, 4, none⟩ = some (.slice sd s.main.length ud) := HY6.out.at 4 rfl)
     | (go_at_call 15; (refine (equal_w q s _ _ HQW.out HSW.out _ _ _ _ _ _ _ _ _ HG6.out HK6.out).mono ?_); rintro e w7 ⟨rfl, hb⟩; rw [HDE.out]; have HB7 := hid (HB6.out.trans (hb.mono HB6.out.size)); clear hb)
     | (go_at_call 11; (refine (awake24_any _ (HE.out.below HB7.out)).mono ?_); rintro e w9 ⟨rfl, hb⟩; have HB9 := hid (HB7.out.trans (hb.mono HB7.out.size)); clear hb))
    go_ret
    exact ⟨rfl, HB9.out⟩
   ·skip
    have HDE := hid (show decide (bareP q = bareP s) = false from decide_eq_false fun e => hst (HSM.out.2 e))
    have hwd := str_neF hst
    go_wp2_with (first
     | (go_at_call 14; (refine (bare_w q _ HQW.out _ _ _ _ _ HG4.out HLQ.out).mono ?_); rintro e w5 ⟨ma, na, mb, nb, mc, nc, md, nd, rfl, ⟨q', e1, e2, e3, e4, e5, hg, he⟩, hb⟩; have HB5 := hid (HB4.out.trans (hb.mono HB4.out.size)); have HX5 := hid (HX4.out.bel hb); have HY5 := hid (HY4.out.bel hb); have HG5 := hid (HG4.out.below hb); have HK5 := hid (HK4.out.below hb); have HM5 := hid (hg.keep fun k hk => ⟨hk.2, rfl⟩ : PgV (· < w5.heap.size) w5 _ _ _ _ q'); have HW5 := hid (e1.trans HQW.out); have HE5 := hid he; clear hg hb e1 e2 e3 e4 e5 he n0 m0 n1 m1 n2 m2 n3 m3 n4 m4)
     | (go_at_call 13; (refine (print_w q' _ HW5.out _ _ _ _ _ (HE.out.below HB5.out) HM5.out (ok_bare HE5.out HOK.out) (num_bare HE5.out HNU.out)).mono ?_); rintro e w6 ⟨rfl, hb⟩; rw [print_bare HE5.out HNU.out HSE.out]; have HB6 := hid (HB5.out.trans (hb.mono HB5.out.size)); have HX6 := hid (HX5.out.bel hb); have HY6 := hid (HY5.out.bel hb); have HG6 := hid (HG5.out.below hb); have HK6 := hid (HK5.out.below hb); clear hb; have n0 : w6.cell? ⟨w.heap.size, 0, none⟩ = some (.int .i64 p.width) := HX6.out.at 0 rfl; have n1 : w6.cell? ⟨w.heap.size, 1, none⟩ = some (.slice qa q.chans.length za) := HX6.out.at 1 rfl; have n2 : w6.cell? ⟨w.heap.size, 2, none⟩ = some (.slice qb q.arrays.length zb) := HX6.out.at 2 rfl; have n3 : w6.cell? ⟨w.heap.size, 3, none⟩ = some (.slice qc q.funcs.length zc) := HX6.out.at 3 rfl; have n4 : w6.cell? ⟨w.heap.size, 4, none⟩ = some (.slice qd q.main.length zd) := HX6.out.at 4 rfl; have m0 : w6.cell? ⟨w.heap.size + 1, 0, none⟩ = some (.int .i64 r.width) := HY6.out.at 0 rfl; have m1 : w6.cell? ⟨w.heap.size + 1, 1, none⟩ = some (.slice sa s.chans.length ua) := HY6.out.at 1 rfl; have m2 : w6.cell? ⟨w.heap.size + 1, 2, none⟩ = some (.slice sb s.arrays.length ub) := HY6.out.at 2 rfl; have m3 : w6.cell? ⟨w.heap.size + 1, 3, none⟩ = some (.slice sc s.funcs.length uc) := HY6.out.at 3 rfl; have m4 : w6.cell? ⟨w.heap.size + 1, 4, none⟩ = some (.slice sd s.main.length ud) := HY6.out.at 4 rfl)
     | (go_at_call 15; (refine (equal_w q s _ _ HQW.out HSW.out _ _ _ _ _ _ _ _ _ HG6.out HK6.out).mono ?_); rintro e w7 ⟨rfl, hb⟩; rw [HDE.out]; have HB7 := hid (HB6.out.trans (hb.mono HB6.out.size)); clear hb)
     | (go_at_call 11; (refine (awake24_any _ (HE.out.below HB7.out)).mono ?_); rintro e w9 ⟨rfl, hb⟩; have HB9 := hid (HB7.out.trans (hb.mono HB7.out.size)); clear hb))
    go_ret
    exact ⟨rfl, HB9.out⟩
  ·subst hE0
   have t1 : (G == 0) = false := by rw [beq_eq_false_iff_ne]; exact hG0
   go_wp2_with (go_at_call 11; (refine (awake24_any _ (HE.out.below HB4.out)).mono ?_); rintro e w9 ⟨rfl, hb⟩; have HB9 := hid (HB4.out.trans (hb.mono HB4.out.size)); clear hb)
   go_ret
   exact ⟨rfl, HB9.out⟩
 ·have t1 : (E == 0) = false := by rw [beq_eq_false_iff_ne]; exact hE0
  go_wp2_with (go_at_call 11; (refine (awake24_any _ (HE.out.below HB4.out)).mono ?_); rintro e w9 ⟨rfl, hb⟩; have HB9 := hid (HB4.out.trans (hb.mono HB4.out.size)); clear hb)
  go_ret
  exact ⟨rfl, HB9.out⟩

end Go.Proofs.YtoofbgoeipijcaaDoor
