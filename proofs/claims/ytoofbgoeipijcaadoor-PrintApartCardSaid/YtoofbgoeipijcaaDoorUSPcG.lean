/-
 The kit: a program without its positions.
-/
import Derived.Test.YtoofbgoeipijcaaDoorUB37
import Derived.Deep.DeepCutAuto
namespace Go.Proofs.YtoofbgoeipijcaaDoor
set_option linter.unusedSimpArgs false
set_option linter.unusedVariables false
open Go.RowKit Go.Shelf
attribute [local go_sem] Oper.semAt_some

theorem poke2 {T : TypeId} {R : Nat → Prop} {w v : World} {B g o : Nat} {a b c d : Value} {p : Pg} {C Z : List Value} {S : Nat} (h : BxL T B C v ∧ BxL T (B + 1) Z v ∧ PgW R v a b c d p ∧ Below B w v ∧ v.heap.size = S) (hp : PosC v g o) (hb : B + 2 ≤ g) (n : Int) :
  BxL T B C (v.setCell ⟨g, o, none⟩ (.int .i64 n)) ∧ BxL T (B + 1) Z (v.setCell ⟨g, o, none⟩ (.int .i64 n)) ∧ PgW R (v.setCell ⟨g, o, none⟩ (.int .i64 n)) a b c d p ∧ Below B w (v.setCell ⟨g, o, none⟩ (.int .i64 n)) ∧ (v.setCell ⟨g, o, none⟩ (.int .i64 n)).heap.size = S :=
 ⟨h.1.keep (heap_ot (by omega) _), h.2.1.keep (heap_ot (by omega) _), h.2.2.1.poke hp n, h.2.2.2.1.setCell (p := ⟨g, o, none⟩) (by show B ≤ g; omega) _, by rw [World.size_setCell]; exact h.2.2.2.2⟩
set_option maxRecDepth 100000 in
set_option maxHeartbeats 8000000 in
/-- A program without its positions. -/
theorem bare_any (p : Pg) (a b c d : Value) (w : World) (hp : PgV (· < w.heap.size) w a b c d p) (hl : LenP p) :
  Calls Tryd.prog 14 #[.agg #[.int .i64 p.width, a, b, c, d]] w fun e w' => ∃ qa xa qb xb qc xc qd xd, e = .returned (.agg #[.int .i64 p.width, .slice qa p.chans.length xa, .slice qb p.arrays.length xb, .slice qc p.funcs.length xc, .slice qd p.main.length xd]) ∧ (∃ p' : Pg, p'.width = p.width ∧ p'.chans = p.chans ∧ p'.arrays = p.arrays ∧ p'.funcs.length = p.funcs.length ∧ p'.main.length = p.main.length ∧ PgV (fun k => w.heap.size ≤ k ∧ k < w'.heap.size) w' (.slice qa p.chans.length xa) (.slice qb p.arrays.length xb) (.slice qc p.funcs.length xc) (.slice qd p.main.length xd) p' ∧ bareP p' = bareP p) ∧ Below w.heap.size w w' := by
 obtain ⟨pa, ca, hva⟩ := hp.1.slc
 obtain ⟨pb, cb, hvb⟩ := hp.2.1.slc
 obtain ⟨pc, cc, hvc⟩ := hp.2.2.1.slc
 obtain ⟨pd, cd, hvd⟩ := hp.2.2.2.slc
 subst hva hvb hvc hvd
 have HP := hid hp; have HL := hid hl
 clear hp hl
 obtain ⟨w2, hw2⟩ : ∃ W, (w.alloc (.cells #[.int .i64 p.width, .slice pa p.chans.length ca, .slice pb p.arrays.length cb, .slice pc p.funcs.length cc, .slice pd p.main.length cd] 40)).alloc (.cells #[.int .i64 0, .slice none 0 0, .slice none 0 0, .slice none 0 0, .slice none 0 0] 40) = W := ⟨_, rfl⟩
 have HXD := hid (show BxL 40 w.heap.size [.int .i64 p.width, .slice pa p.chans.length ca, .slice pb p.arrays.length cb, .slice pc p.funcs.length cc, .slice pd p.main.length cd] w2 from by rw [← hw2]; exact (BxL.new _ _ _).al _)
 have HYD := hid (show BxL 40 (w.heap.size + 1) [.int .i64 0, .slice none 0 0, .slice none 0 0, .slice none 0 0, .slice none 0 0] w2 from by rw [← hw2]; have h9 := BxL.new 40 (w.alloc (.cells #[.int .i64 p.width, .slice pa p.chans.length ca, .slice pb p.arrays.length cb, .slice pc p.funcs.length cc, .slice pd p.main.length cd] 40)) [.int .i64 0, .slice none 0 0, .slice none 0 0, .slice none 0 0, .slice none 0 0]; rw [World.size_alloc] at h9; exact h9)
 have HBD := hid (show Below w.heap.size w w2 from by rw [← hw2]; exact ((Below.refl _ _).alloc (Nat.le_refl _) _).alloc (by rw [World.size_alloc]; omega) _)
 have HZD := hid (show w2.heap.size = w.heap.size + 2 from by rw [← hw2]; show ((w.alloc _).alloc _).heap.size = _; rw [World.size_alloc, World.size_alloc])
 have HWW := hid hw2
 have n0 : w2.cell? ⟨w.heap.size, 0, none⟩ = some (.int .i64 p.width) := HXD.out.at 0 rfl
 clear n0 hw2
 go_enter Tryd.func14, Tryd.ntmps14
 go_upto_region 1 with fail
 rw [HWW.out]
 have i0 : w2.cell? ⟨w.heap.size, 0, none⟩ = some (.int .i64 p.width) := HXD.out.at 0 rfl
 have i1 : w2.cell? ⟨w.heap.size, 1, none⟩ = some (.slice pa p.chans.length ca) := HXD.out.at 1 rfl
 have i2 : w2.cell? ⟨w.heap.size, 2, none⟩ = some (.slice pb p.arrays.length cb) := HXD.out.at 2 rfl
 have i3 : w2.cell? ⟨w.heap.size, 3, none⟩ = some (.slice pc p.funcs.length cc) := HXD.out.at 3 rfl
 have i4 : w2.cell? ⟨w.heap.size, 4, none⟩ = some (.slice pd p.main.length cd) := HXD.out.at 4 rfl
 go_wp2_with (first
  | (go_at_call 36; (refine (copypg_any p _ _ _ _ _ (HP.out.below HBD.out) HL.out).mono ?_); rintro e w1 ⟨qa, xa, qb, xb, qc, xc, qd, xd, rfl, ht, hb⟩; clear i0 i1 i2 i3 i4; have HT := hid ht; have HB1 := hid (HBD.out.trans (hb.mono HBD.out.size)); have HX1 := hid (HXD.out.bel hb); have HY1 := hid (HYD.out.bel hb); have HZ1 := hid hb.size; clear ht hb; have x0 : w1.cell? ⟨w.heap.size, 0, none⟩ = some (.int .i64 p.width) := HX1.out.at 0 rfl; have f0 : w1.frozen? ⟨w.heap.size, 0, none⟩ = false := HX1.out.fr 0; have x1 : w1.cell? ⟨w.heap.size, 1, none⟩ = some (.slice pa p.chans.length ca) := HX1.out.at 1 rfl; have f1 : w1.frozen? ⟨w.heap.size, 1, none⟩ = false := HX1.out.fr 1; have x2 : w1.cell? ⟨w.heap.size, 2, none⟩ = some (.slice pb p.arrays.length cb) := HX1.out.at 2 rfl; have f2 : w1.frozen? ⟨w.heap.size, 2, none⟩ = false := HX1.out.fr 2; have x3 : w1.cell? ⟨w.heap.size, 3, none⟩ = some (.slice pc p.funcs.length cc) := HX1.out.at 3 rfl; have f3 : w1.frozen? ⟨w.heap.size, 3, none⟩ = false := HX1.out.fr 3; have x4 : w1.cell? ⟨w.heap.size, 4, none⟩ = some (.slice pd p.main.length cd) := HX1.out.at 4 rfl; have f4 : w1.frozen? ⟨w.heap.size, 4, none⟩ = false := HX1.out.fr 4))
 clear x0 f0 x1 f1 x2 f2 x3 f3 x4 f4
 obtain ⟨w4, hw4⟩ : ∃ W, ((((w1.setCell ⟨w.heap.size, 0, none⟩ (.int .i64 p.width)).setCell ⟨w.heap.size, 1, none⟩ (.slice qa p.chans.length xa)).setCell ⟨w.heap.size, 2, none⟩ (.slice qb p.arrays.length xb)).setCell ⟨w.heap.size, 3, none⟩ (.slice qc p.funcs.length xc)).setCell ⟨w.heap.size, 4, none⟩ (.slice qd p.main.length xd) = W := ⟨_, rfl⟩
 rw [hw4]
 obtain ⟨SS, hSS⟩ : ∃ S, w1.heap.size = S := ⟨_, rfl⟩
 obtain ⟨RR, hRR⟩ : ∃ R : Nat → Prop, R = fun k => w.heap.size + 2 ≤ k ∧ k < SS := ⟨_, rfl⟩
 have HR := hid hRR
 have hk4 : ∀ j, j ≠ w.heap.size → w4.heap[j]? = w1.heap[j]? := fun j h => by rw [← hw4, heap_ot h, heap_ot h, heap_ot h, heap_ot h, heap_ot h]
 have HW4 := hid (show BxL 40 w.heap.size [.int .i64 p.width, .slice qa p.chans.length xa, .slice qb p.arrays.length xb, .slice qc p.funcs.length xc, .slice qd p.main.length xd] w4 ∧ BxL 40 (w.heap.size + 1) [.int .i64 0, .slice none 0 0, .slice none 0 0, .slice none 0 0, .slice none 0 0] w4 ∧ PgW RR w4 (.slice qa p.chans.length xa) (.slice qb p.arrays.length xb) (.slice qc p.funcs.length xc) (.slice qd p.main.length xd) p ∧ Below w.heap.size w w4 ∧ w4.heap.size = SS from ⟨by rw [← hw4]; exact ((((HX1.out.set 0 _).set 1 _).set 2 _).set 3 _).set 4 _, HY1.out.keep (hk4 _ (by omega)), HT.out.weak.keep fun k hk => by have h1 := HZD.out; have h2 : w2.heap.size + 2 ≤ k ∧ k < w1.heap.size := hk; exact ⟨by rw [hRR]; exact ⟨by omega, by omega⟩, hk4 k (by omega)⟩, by rw [← hw4]; exact ((((HB1.out.setCell (p := ⟨w.heap.size, 0, none⟩) (Nat.le_refl _) _).setCell (p := ⟨w.heap.size, 1, none⟩) (Nat.le_refl _) _).setCell (p := ⟨w.heap.size, 2, none⟩) (Nat.le_refl _) _).setCell (p := ⟨w.heap.size, 3, none⟩) (Nat.le_refl _) _).setCell (p := ⟨w.heap.size, 4, none⟩) (Nat.le_refl _) _, by rw [← hw4]; simp only [World.size_setCell]; exact hSS⟩)
 have HSS := hid (show w.heap.size + 2 ≤ SS from by have h1 := HZD.out; have h2 := HZ1.out; omega)
 clear hw4 hk4 hSS hRR
 go_loopw [3, 4] (fun iv jv wr => ∃ k : Nat, k ≤ p.funcs.length ∧ iv = .int .i64 (k : Int) ∧ BxL 40 w.heap.size [.int .i64 p.width, .slice qa p.chans.length xa, .slice qb p.arrays.length xb, .slice qc p.funcs.length xc, .slice qd p.main.length xd] wr ∧ BxL 40 (w.heap.size + 1) [.int .i64 0, .slice none 0 0, .slice none 0 0, .slice none 0 0, .slice none 0 0] wr ∧ PgW RR wr (.slice qa p.chans.length xa) (.slice qb p.arrays.length xb) (.slice qc p.funcs.length xc) (.slice qd p.main.length xd) p ∧ Below w.heap.size w wr ∧ wr.heap.size = SS) (fun iv _ _ => p.funcs.length - (intOf iv).toNat)
 case atStart => exact ⟨0, Nat.zero_le _, rfl, HW4.out⟩
 case round =>
  obtain ⟨k, hk, rfl, hrel⟩ := hrel
  have HRL := hid hrel
  have HFL := hid (show p.funcs.length ≤ 140737488355328 from by have := HL.out.funcs; omega)
  obtain ⟨lf, h3, e3⟩ := hrel.2.2.1.funcs
  by_cases hlt : k < p.funcs.length
  ·obtain ⟨b, off, hoff, rfl, hlen, hRb, hTB, hfr, hcells⟩ := h3.at (by omega)
   have HOFF := hid hoff
   obtain ⟨cs, ⟨pv, cv, rfl, hq, hc⟩, hcell⟩ := hcells k (by omega)
   obtain ⟨pp, cp, rfl⟩ := hc.slc
   have h2c := hcell 2 _ rfl
   obtain ⟨nC, hnC⟩ : ∃ n, (lf[k]'(by omega)).code.length = n := ⟨_, rfl⟩
   rw [hnC] at h2c hc
   have HNC := hid (show nC ≤ 140737488355328 from by
    rw [← hnC]
    have e : bareF (lf[k]'(by omega)) = bareF p.funcs[k] := by
     have := congrArg (fun l => l[k]?) e3
     simpa [show k < lf.length by omega, hlt] using this
    have e5 : (lf[k]'(by omega)).code.length = p.funcs[k].code.length := by have := congrArg (fun f : Fu => f.code.length) e; simpa [bareF] using this
    have := (HL.out.each _ (List.getElem_mem hlt)).2.1
    omega)
   have x3 : wr.cell? ⟨w.heap.size, 3, none⟩ = some (.slice (some ⟨b, off, none⟩) p.funcs.length xc) := hrel.1.at 3 rfl
   have z2 : wr.cell? ⟨b, off + k * 5 + 2, none⟩ = some (.slice pp nC cp) := h2c
   obtain ⟨n3, z3⟩ : ∃ n : Int, wr.cell? ⟨b, off + k * 5 + 3, none⟩ = some (.int .i64 n) := ⟨_, hcell 3 _ rfl⟩
   obtain ⟨n4, z4⟩ : ∃ n : Int, wr.cell? ⟨b, off + k * 5 + 4, none⟩ = some (.int .i64 n) := ⟨_, hcell 4 _ rfl⟩
   have g3 : wr.frozen? ⟨b, off + k * 5 + 3, none⟩ = false := hfr _
   have g4 : wr.frozen? ⟨b, off + k * 5 + 4, none⟩ = false := hfr _
   have HCD := hid (show ∃ l, OwT kInT RR 26 wr (.slice pp nC cp) l from ⟨_, hc⟩)
   have HTB := hid hTB; have HRB := hid (show w.heap.size + 2 ≤ b from by rw [HR.out] at hRb; exact hRb.1)
   have HP3 := hid (show PosC wr b (off + k * 5 + 3) from .inr ⟨hTB, by rw [hoff]; omega⟩)
   have HP4 := hid (show PosC wr b (off + k * 5 + 4) from .inr ⟨hTB, by rw [hoff]; omega⟩)
   have HH2 := hid h2c
   have HLT := hid hlt
   clear hoff hcells hfr hRb hTB hcell hq hc h2c e3 h3 hrel hlen hnC
   obtain ⟨wo, rfl⟩ : ∃ wo : World, wo = wr := ⟨_, rfl⟩
   go_wp2_with fail
   obtain ⟨w6, hw6⟩ : ∃ W, (wo.setCell ⟨b, off + k * 5 + 3, none⟩ (.int .i64 0)).setCell ⟨b, off + k * 5 + 4, none⟩ (.int .i64 0) = W := ⟨_, rfl⟩
   rw [hw6]
   have HW6 := hid (show BxL 40 w.heap.size [.int .i64 p.width, .slice qa p.chans.length xa, .slice qb p.arrays.length xb, .slice (some ⟨b, off, none⟩) p.funcs.length xc, .slice qd p.main.length xd] w6 ∧ BxL 40 (w.heap.size + 1) [.int .i64 0, .slice none 0 0, .slice none 0 0, .slice none 0 0, .slice none 0 0] w6 ∧ PgW RR w6 (.slice qa p.chans.length xa) (.slice qb p.arrays.length xb) (.slice (some ⟨b, off, none⟩) p.funcs.length xc) (.slice qd p.main.length xd) p ∧ Below w.heap.size w w6 ∧ w6.heap.size = SS from by rw [← hw6]; exact poke2 (poke2 HRL.out HP3.out HRB.out 0) HP4.out.poke HRB.out 0)
   have HC6 := hid (show ∃ l, OwT kInT RR 26 w6 (.slice pp nC cp) l from by
    obtain ⟨l, h⟩ := HCD.out
    obtain ⟨l1, h1, _⟩ := in_poke h HP3.out 0
    obtain ⟨l2, h2, _⟩ := in_poke h1 HP4.out.poke 0
    rw [← hw6]; exact ⟨l2, h2⟩)
   have HZ6 := hid (show w6.cell? ⟨b, off + k * 5 + 2, none⟩ = some (.slice pp nC cp) from by
    rw [← hw6]
    exact (World.cell?_setCell_other _ _ _ _ (by intro e; injection e; omega)).trans ((World.cell?_setCell_other _ _ _ _ (by intro e; injection e; omega)).trans HH2.out))
   have HT6 := hid (show TB 45 w6 b from by rw [← hw6]; exact HTB.out.poke.poke)
   clear hw6 x3 z2 z3 z4 g3 g4 HP3 HP4 HTB HH2 HCD HRL
   go_loopw [4] (fun jv ws => ∃ m : Nat, m ≤ nC ∧ jv = .int .i64 (m : Int) ∧ (BxL 40 w.heap.size [.int .i64 p.width, .slice qa p.chans.length xa, .slice qb p.arrays.length xb, .slice (some ⟨b, off, none⟩) p.funcs.length xc, .slice qd p.main.length xd] ws ∧ BxL 40 (w.heap.size + 1) [.int .i64 0, .slice none 0 0, .slice none 0 0, .slice none 0 0, .slice none 0 0] ws ∧ PgW RR ws (.slice qa p.chans.length xa) (.slice qb p.arrays.length xb) (.slice (some ⟨b, off, none⟩) p.funcs.length xc) (.slice qd p.main.length xd) p ∧ Below w.heap.size w ws ∧ ws.heap.size = SS) ∧ ws.heap[b]? = w6.heap[b]? ∧ ∃ l, OwT kInT RR 26 ws (.slice pp nC cp) l) (fun jv _ => nC - (intOf jv).toNat)
   case atStart => exact ⟨0, Nat.zero_le _, rfl, HW6.out, rfl, HC6.out⟩
   case round =>
    obtain ⟨m, hm, rfl, hrl, hbk, lc, hlc⟩ := hrel
    have HRL := hid hrl; have HBK := hid hbk; have HLC := hid hlc
    have x3 : wr.cell? ⟨w.heap.size, 3, none⟩ = some (.slice (some ⟨b, off, none⟩) p.funcs.length xc) := hrl.1.at 3 rfl
    have z2 : wr.cell? ⟨b, off + k * 5 + 2, none⟩ = some (.slice pp nC cp) := (World.cell?_of_block (a := ⟨b, off + k * 5 + 2, none⟩) hbk).trans HZ6.out
    by_cases hlt2 : m < nC
    ·obtain ⟨b2, off2, hoff2, rfl, hlen2, hR2, hTB2, hfr2, hcells2⟩ := hlc.at (by omega)
     obtain ⟨cs, ⟨av, rfl, hs⟩, hcell2⟩ := hcells2 m (by omega)
     obtain ⟨n5, y5⟩ : ∃ n : Int, wr.cell? ⟨b2, off2 + m * 7 + 5, none⟩ = some (.int .i64 n) := ⟨_, hcell2 5 _ rfl⟩
     obtain ⟨n6, y6⟩ : ∃ n : Int, wr.cell? ⟨b2, off2 + m * 7 + 6, none⟩ = some (.int .i64 n) := ⟨_, hcell2 6 _ rfl⟩
     have u5 : wr.frozen? ⟨b2, off2 + m * 7 + 5, none⟩ = false := hfr2 _
     have u6 : wr.frozen? ⟨b2, off2 + m * 7 + 6, none⟩ = false := hfr2 _
     have HP5 := hid (show PosC wr b2 (off2 + m * 7 + 5) from .inl ⟨hTB2, by rw [hoff2]; omega⟩)
     have HP6 := hid (show PosC wr b2 (off2 + m * 7 + 6) from .inl ⟨hTB2, by rw [hoff2]; omega⟩)
     have HR2 := hid (show w.heap.size + 2 ≤ b2 from by rw [HR.out] at hR2; exact hR2.1)
     have HNE := hid (show b ≠ b2 from by rintro rfl; exact absurd ((HT6.out.keep hbk).uni hTB2) (by decide))
     have HLT2 := hid hlt2
     clear hoff2 hlen2 hR2 hTB2 hfr2 hcells2 hs hcell2 hrl hbk hlc
     go_wp2_with fail
     go_roundw
     case rel =>
      refine ⟨m + 1, HLT2.out, by rw [wrap_next HLT2.out HNC.out], poke2 (poke2 HRL.out HP5.out HR2.out 0) HP6.out.poke HR2.out 0, ((heap_ot HNE.out _).trans (heap_ot HNE.out _)).trans HBK.out, ?_⟩
      obtain ⟨l1, h1, _⟩ := in_poke HLC.out HP5.out 0
      obtain ⟨l2, h2, _⟩ := in_poke h1 HP6.out.poke 0
      exact ⟨l2, h2⟩
     case measure => exact meas_next HLT2.out HNC.out
    ·obtain rfl : m = nC := by omega
     clear hrl hbk hlc
     go_wp2_with fail
     go_roundw
     case rel => exact ⟨k + 1, HLT.out, by rw [wrap_next HLT.out HFL.out], HRL.out⟩
     case measure => exact meas_next HLT.out HFL.out
  ·obtain rfl : k = p.funcs.length := by omega
   have x3 : wr.cell? ⟨w.heap.size, 3, none⟩ = some (.slice qc p.funcs.length xc) := hrel.1.at 3 rfl
   clear e3 h3 hrel
   obtain ⟨wo, rfl⟩ : ∃ wo : World, wo = wr := ⟨_, rfl⟩
   go_wp2_with fail
   clear x3
   have HML := hid (show p.main.length ≤ 140737488355328 from by have := HL.out.main.1; omega)
   go_loopw [5] (fun iv ws => ∃ k : Nat, k ≤ p.main.length ∧ iv = .int .i64 (k : Int) ∧ BxL 40 w.heap.size [.int .i64 p.width, .slice qa p.chans.length xa, .slice qb p.arrays.length xb, .slice qc p.funcs.length xc, .slice qd p.main.length xd] ws ∧ BxL 40 (w.heap.size + 1) [.int .i64 0, .slice none 0 0, .slice none 0 0, .slice none 0 0, .slice none 0 0] ws ∧ PgW RR ws (.slice qa p.chans.length xa) (.slice qb p.arrays.length xb) (.slice qc p.funcs.length xc) (.slice qd p.main.length xd) p ∧ Below w.heap.size w ws ∧ ws.heap.size = SS) (fun iv _ => p.main.length - (intOf iv).toNat)
   case atStart => exact ⟨0, Nat.zero_le _, rfl, HRL.out⟩
   case round =>
    obtain ⟨m, hm, rfl, hrl⟩ := hrel
    have HRM := hid hrl
    by_cases hlt2 : m < p.main.length
    ·obtain ⟨lm, hlm, _⟩ := hrl.2.2.1.main
     obtain ⟨b, off, hoff2, rfl, hlen2, hR2, hTB2, hfr2, hcells2⟩ := hlm.at (by omega)
     obtain ⟨cs, ⟨av, rfl, hs⟩, hcell2⟩ := hcells2 m (by omega)
     have x4 : wr.cell? ⟨w.heap.size, 4, none⟩ = some (.slice (some ⟨b, off, none⟩) p.main.length xd) := hrl.1.at 4 rfl
     obtain ⟨n5, y5⟩ : ∃ n : Int, wr.cell? ⟨b, off + m * 7 + 5, none⟩ = some (.int .i64 n) := ⟨_, hcell2 5 _ rfl⟩
     obtain ⟨n6, y6⟩ : ∃ n : Int, wr.cell? ⟨b, off + m * 7 + 6, none⟩ = some (.int .i64 n) := ⟨_, hcell2 6 _ rfl⟩
     have u5 : wr.frozen? ⟨b, off + m * 7 + 5, none⟩ = false := hfr2 _
     have u6 : wr.frozen? ⟨b, off + m * 7 + 6, none⟩ = false := hfr2 _
     have HP5 := hid (show PosC wr b (off + m * 7 + 5) from .inl ⟨hTB2, by rw [hoff2]; omega⟩)
     have HP6 := hid (show PosC wr b (off + m * 7 + 6) from .inl ⟨hTB2, by rw [hoff2]; omega⟩)
     have HR2 := hid (show w.heap.size + 2 ≤ b from by rw [HR.out] at hR2; exact hR2.1)
     have HLT2 := hid hlt2
     clear hoff2 hlen2 hR2 hTB2 hfr2 hcells2 hs hcell2 hrl hlm
     go_wp2_with fail
     go_roundw
     case rel => exact ⟨m + 1, HLT2.out, by rw [wrap_next HLT2.out HML.out], poke2 (poke2 HRM.out HP5.out HR2.out 0) HP6.out.poke HR2.out 0⟩
     case measure => exact meas_next HLT2.out HML.out
    ·obtain rfl : m = p.main.length := by omega
     have x0 : wr.cell? ⟨w.heap.size, 0, none⟩ = some (.int .i64 p.width) := hrl.1.at 0 rfl
     have x1 : wr.cell? ⟨w.heap.size, 1, none⟩ = some (.slice qa p.chans.length xa) := hrl.1.at 1 rfl
     have x2 : wr.cell? ⟨w.heap.size, 2, none⟩ = some (.slice qb p.arrays.length xb) := hrl.1.at 2 rfl
     have x3 : wr.cell? ⟨w.heap.size, 3, none⟩ = some (.slice qc p.funcs.length xc) := hrl.1.at 3 rfl
     have x4 : wr.cell? ⟨w.heap.size, 4, none⟩ = some (.slice qd p.main.length xd) := hrl.1.at 4 rfl
     have y0 : wr.cell? ⟨w.heap.size + 1, 0, none⟩ = some (.int .i64 0) := hrl.2.1.at 0 rfl
     have g0 : wr.frozen? ⟨w.heap.size + 1, 0, none⟩ = false := hrl.2.1.fr 0
     have y1 : wr.cell? ⟨w.heap.size + 1, 1, none⟩ = some (.slice none 0 0) := hrl.2.1.at 1 rfl
     have g1 : wr.frozen? ⟨w.heap.size + 1, 1, none⟩ = false := hrl.2.1.fr 1
     have y2 : wr.cell? ⟨w.heap.size + 1, 2, none⟩ = some (.slice none 0 0) := hrl.2.1.at 2 rfl
     have g2 : wr.frozen? ⟨w.heap.size + 1, 2, none⟩ = false := hrl.2.1.fr 2
     have y3 : wr.cell? ⟨w.heap.size + 1, 3, none⟩ = some (.slice none 0 0) := hrl.2.1.at 3 rfl
     have g3 : wr.frozen? ⟨w.heap.size + 1, 3, none⟩ = false := hrl.2.1.fr 3
     have y4 : wr.cell? ⟨w.heap.size + 1, 4, none⟩ = some (.slice none 0 0) := hrl.2.1.at 4 rfl
     have g4 : wr.frozen? ⟨w.heap.size + 1, 4, none⟩ = false := hrl.2.1.fr 4
     clear hrl
     go_wp2_with fail
     clear x0 y0 g0 x1 y1 g1 x2 y2 g2 x3 y3 g3 x4 y4 g4
     obtain ⟨wq, hwq⟩ : ∃ W, ((((wr.setCell ⟨w.heap.size + 1, 0, none⟩ (.int .i64 p.width)).setCell ⟨w.heap.size + 1, 1, none⟩ (.slice qa p.chans.length xa)).setCell ⟨w.heap.size + 1, 2, none⟩ (.slice qb p.arrays.length xb)).setCell ⟨w.heap.size + 1, 3, none⟩ (.slice qc p.funcs.length xc)).setCell ⟨w.heap.size + 1, 4, none⟩ (.slice qd p.main.length xd) = W := ⟨_, rfl⟩
     rw [hwq]
     have hyq : BxL 40 (w.heap.size + 1) [.int .i64 p.width, .slice qa p.chans.length xa, .slice qb p.arrays.length xb, .slice qc p.funcs.length xc, .slice qd p.main.length xd] wq := by rw [← hwq]; exact ((((HRM.out.2.1.set 0 _).set 1 _).set 2 _).set 3 _).set 4 _
     have hkq : ∀ j, j ≠ w.heap.size + 1 → wq.heap[j]? = wr.heap[j]? := fun j h2 => by rw [← hwq, heap_ot h2, heap_ot h2, heap_ot h2, heap_ot h2, heap_ot h2]
     have hsq : wq.heap.size = SS := by rw [← hwq]; simp only [World.size_setCell]; exact HRM.out.2.2.2.2
     have hbq : Below w.heap.size w wq := by
      rw [← hwq]
      exact ((((HRM.out.2.2.2.1.setCell (p := ⟨w.heap.size + 1, 0, none⟩) (Nat.le_succ _) _).setCell (p := ⟨w.heap.size + 1, 1, none⟩) (Nat.le_succ _) _).setCell (p := ⟨w.heap.size + 1, 2, none⟩) (Nat.le_succ _) _).setCell (p := ⟨w.heap.size + 1, 3, none⟩) (Nat.le_succ _) _).setCell (p := ⟨w.heap.size + 1, 4, none⟩) (Nat.le_succ _) _
     have e0' : wq.cell? ⟨w.heap.size + 1, 0, none⟩ = some (.int .i64 p.width) := hyq.at 0 rfl
     have e1' : wq.cell? ⟨w.heap.size + 1, 1, none⟩ = some (.slice qa p.chans.length xa) := hyq.at 1 rfl
     have e2' : wq.cell? ⟨w.heap.size + 1, 2, none⟩ = some (.slice qb p.arrays.length xb) := hyq.at 2 rfl
     have e3' : wq.cell? ⟨w.heap.size + 1, 3, none⟩ = some (.slice qc p.funcs.length xc) := hyq.at 3 rfl
     have e4' : wq.cell? ⟨w.heap.size + 1, 4, none⟩ = some (.slice qd p.main.length xd) := hyq.at 4 rfl
     clear hwq hyq
     refine bodyPost_ret (v := .agg #[.int .i64 p.width, .slice qa p.chans.length xa, .slice qb p.arrays.length xb, .slice qc p.funcs.length xc, .slice qd p.main.length xd]) (by simp [results, Tryd.results14, go_sem, e0', e1', e2', e3', e4']) rfl ?_
     have hpw := HRM.out.2.2.1.keep (R' := fun k => w.heap.size ≤ k ∧ k < wq.heap.size) (w' := wq) fun k hk => by
      rw [HR.out] at hk
      have h1 : w.heap.size + 2 ≤ k ∧ k < SS := hk
      exact ⟨⟨by omega, by omega⟩, hkq k (by omega)⟩
     exact ⟨_, _, _, _, _, _, _, _, rfl, hpw.strong HL.out, hbq⟩

end Go.Proofs.YtoofbgoeipijcaaDoor
