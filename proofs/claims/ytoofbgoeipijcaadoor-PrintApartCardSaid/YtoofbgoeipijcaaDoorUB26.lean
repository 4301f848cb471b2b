/-
 The kit: CopyArgs.
 The kit: CopyInstr.
-/
import Derived.Test.YtoofbgoeipijcaaDoorUB10
import Derived.Test.YtoofbgoeipijcaaDoorUB6
import Derived.Deep.DeepCutAuto
import Derived.Test.YtoofbgoeipijcaaDoorUB9
namespace Go.Proofs.YtoofbgoeipijcaaDoor
set_option linter.unusedSimpArgs false
set_option linter.unusedVariables false
open Go.RowKit Go.Shelf
attribute [local go_sem] Oper.semAt_some

theorem info_ag : (Tryd.prog.info? 50).map (fun i => (i.zero, i.size, i.bytes)) = some (some (.agg #[.string ⟨#[]⟩, .int .u64 0]), kAg.n, 24) := by kernel_rfl
set_option maxRecDepth 100000 in
set_option maxHeartbeats 2000000 in
/-- Operands are copied. -/
theorem copyargs_any (l : List Ag) (v : Value) (w : World) (h : SlG kAg (· < w.heap.size) w v l) (hl : l.length ≤ 5864062014805) :
  Calls Tryd.prog 6 #[v] w fun e w' => ∃ v', e = .returned v' ∧ GA kAg w.heap.size 50 w' v' l ∧ Below w.heap.size w w' := by
 obtain ⟨p, c, rfl⟩ := h.slc
 have HS := hid h; have HL := hid hl
 clear h hl
 go_enter Tryd.func6, Tryd.ntmps6
 go_wp2
 go_loopw [3, 4] (fun ov iv wr => ∃ k : Nat, k ≤ l.length ∧ iv = .int .i64 (k : Int) ∧ GA kAg w.heap.size 50 wr ov (l.take k) ∧ Below w.heap.size w wr) (fun _ iv _ => l.length - (intOf iv).toNat)
 case atStart => exact ⟨0, Nat.zero_le _, rfl, GA.nil _ _ _ _, Below.refl _ _⟩
 case round =>
  obtain ⟨k, hk, rfl, hga, hbr⟩ := hrel
  obtain ⟨T, hT⟩ : ∃ T, l.take k = T := ⟨_, rfl⟩
  rw [hT] at hga
  have HTD := hid hT
  clear hT
  obtain ⟨po, co, rfl⟩ := hga.slc
  by_cases hlt : k < l.length
  ·obtain ⟨b, off, rfl, hR, hcells⟩ := ag_at HS.out (by omega : 0 < l.length)
   obtain ⟨c0, c1⟩ := hcells k hlt
   have d0 := (hbr.cell (p := ⟨b, off + k * 2, none⟩) hR).trans c0
   have d1 := (hbr.cell (p := ⟨b, off + k * 2 + 1, none⟩) hR).trans c1
   have HSN := hid (show l.take (k + 1) = T ++ [l[k]] from by rw [List.take_succ_eq_append_getElem hlt, HTD.out])
   have HCL := hid (show T.length + 1 ≤ 5864062014805 from by rw [← HTD.out, List.length_take]; have := HL.out; omega)
   have HLT := hid hlt; have HBO := hid hbr; have HGO := hid hga
   clear hcells c0 c1 hR hbr hga HTD
   generalize l[k] = x at *
   clear hlt
   go_wp2_with (at_builtin; refine wpList_push (K := kAg) (x := x) (cs := [.string ⟨x.nm.toArray⟩, .int .u64 (x.num : Int)]) (te := 50) rfl _ _ 22 rfl Tryd.underlying22 _ 24 info_ag rfl HGO.out rfl rfl rfl (by have := HCL.out; omega) (by have := HCL.out; unfold maxLen; omega) HBO.out.size ?_; intro v5 w5 hg5 hgr5 hm5; have HG5 := hid hg5; have HB5 := hid (below_push HGO.out HBO.out hgr5 HBO.out.size); clear hg5 hgr5 hm5)
   go_roundw
   case rel => exact ⟨k + 1, HLT.out, by rw [wrap_next HLT.out HS.out.len], by rw [HSN.out]; exact HG5.out, HB5.out⟩
   case measure => exact meas_next HLT.out HS.out.len
  ·obtain rfl : k = l.length := by omega
   have HBR := hid hbr; have HGA := hid hga
   clear hlt hbr hga
   go_wp2_with fail
   go_ret
   have hga := HGA.out
   have hT := HTD.out
   rw [List.take_length] at hT
   subst hT
   exact ⟨_, rfl, hga, HBR.out⟩

end Go.Proofs.YtoofbgoeipijcaaDoor

namespace Go.Proofs.YtoofbgoeipijcaaDoor
set_option linter.unusedSimpArgs false
set_option linter.unusedVariables false
open Go.RowKit Go.Shelf
attribute [local go_sem] Oper.semAt_some

theorem ag_keepOwn {B e : Nat} {w w' : World} {v : Value} {l : List Ag} (h : GA kAg B e w v l) (hs : w.heap.size ≤ w'.heap.size) (hf : ∀ j, v.ownBlock = some j → w'.heap[j]? = w.heap[j]?) : GA kAg B e w' v l := by
 obtain ⟨css, h1, h2⟩ := h.row
 exact ⟨⟨css, ⟨h1.1, fun i hi hi' => h1.2 i hi hi'⟩, owns_keepG h2 hf⟩⟩
theorem ag_base {B B' e : Nat} {w : World} {v : Value} {l : List Ag} (h : GA kAg B e w v l) (hB : B' ≤ B) : GA kAg B' e w v l := by
 obtain ⟨css, h1, h2⟩ := h.row
 refine ⟨⟨css, h1, h2.1, ?_⟩⟩
 rcases h2.2 with h | ⟨g, cap, cur, h3, hb, h4⟩
 ·exact .inl h
 ·exact .inr ⟨g, cap, cur, h3, Nat.le_trans hB hb, h4⟩
set_option maxRecDepth 100000 in
set_option maxHeartbeats 4000000 in
/-- An instruction is copied. -/
theorem copyinstr_any (x : In) (v : Value) (w : World) (h : SlG kAg (· < w.heap.size) w v x.args) (hl : x.args.length ≤ 5864062014805) :
  Calls Tryd.prog 7 #[.agg #[.int .u8 (x.kind : Int), .int .u8 (x.op : Int), .string ⟨x.dst.toArray⟩, .string ⟨x.nm.toArray⟩, v, .int .i64 x.pos.1, .int .i64 x.pos.2]] w fun e w' =>
   ∃ v', e = .returned (.agg #[.int .u8 (x.kind : Int), .int .u8 (x.op : Int), .string ⟨x.dst.toArray⟩, .string ⟨x.nm.toArray⟩, v', .int .i64 x.pos.1, .int .i64 x.pos.2]) ∧ GA kAg w.heap.size 50 w' v' x.args ∧ Below w.heap.size w w' := by
 obtain ⟨pa, ca, rfl⟩ := h.slc
 have HSL := hid h; have HL := hid hl
 clear h hl
 go_enter Tryd.func7, Tryd.ntmps7
 go_upto_region 1 with fail
 obtain ⟨w2, hw2⟩ : ∃ W, (w.alloc (.cells #[.int .u8 (x.kind : Int), .int .u8 (x.op : Int), .string ⟨x.dst.toArray⟩, .string ⟨x.nm.toArray⟩, .slice pa x.args.length ca, .int .i64 x.pos.1, .int .i64 x.pos.2] 26)).alloc (.cells #[.int .u8 0, .int .u8 0, .string ⟨#[]⟩, .string ⟨#[]⟩, .slice none 0 0, .int .i64 0, .int .i64 0] 26) = W := ⟨_, rfl⟩
 have HB2 := hid (show Below w.heap.size w w2 from by rw [← hw2]; exact ((Below.refl _ _).alloc (Nat.le_refl _) _).alloc (by rw [World.size_alloc]; omega) _)
 have HX2 := hid (show BxL 26 w.heap.size [.int .u8 (x.kind : Int), .int .u8 (x.op : Int), .string ⟨x.dst.toArray⟩, .string ⟨x.nm.toArray⟩, .slice pa x.args.length ca, .int .i64 x.pos.1, .int .i64 x.pos.2] w2 from by rw [← hw2]; exact (BxL.new _ _ _).al _)
 have HT2 := hid (show BxL 26 (w.heap.size + 1) [.int .u8 0, .int .u8 0, .string ⟨#[]⟩, .string ⟨#[]⟩, .slice none 0 0, .int .i64 0, .int .i64 0] w2 from by rw [← hw2]; have := BxL.new 26 (w.alloc (.cells #[.int .u8 (x.kind : Int), .int .u8 (x.op : Int), .string ⟨x.dst.toArray⟩, .string ⟨x.nm.toArray⟩, .slice pa x.args.length ca, .int .i64 x.pos.1, .int .i64 x.pos.2] 26)) [.int .u8 0, .int .u8 0, .string ⟨#[]⟩, .string ⟨#[]⟩, .slice none 0 0, .int .i64 0, .int .i64 0]; rw [World.size_alloc] at this; exact this)
 have HS2 := hid (show w2.heap.size = w.heap.size + 2 from by rw [← hw2, World.size_alloc, World.size_alloc])
 rw [hw2]
 clear hw2
 have x4 : w2.cell? ⟨w.heap.size, 4, none⟩ = some (.slice pa x.args.length ca) := HX2.out.at 4 rfl
 go_wp2_with (go_at_call 6; (refine (copyargs_any x.args _ _ (HSL.out.below HB2.out) HL.out).mono ?_); rintro e w3 ⟨v3, rfl, hg3, hb⟩; obtain ⟨p3, q3, rfl⟩ := hg3.slc; have c0 : w3.cell? ⟨w.heap.size, 0, none⟩ = some (.int .u8 (x.kind : Int)) := (HX2.out.bel hb).at 0 rfl; have c1 : w3.cell? ⟨w.heap.size, 1, none⟩ = some (.int .u8 (x.op : Int)) := (HX2.out.bel hb).at 1 rfl; have c2 : w3.cell? ⟨w.heap.size, 2, none⟩ = some (.string ⟨x.dst.toArray⟩) := (HX2.out.bel hb).at 2 rfl; have c3 : w3.cell? ⟨w.heap.size, 3, none⟩ = some (.string ⟨x.nm.toArray⟩) := (HX2.out.bel hb).at 3 rfl; have c4 : w3.cell? ⟨w.heap.size, 4, none⟩ = some (.slice pa x.args.length ca) := (HX2.out.bel hb).at 4 rfl; have c5 : w3.cell? ⟨w.heap.size, 5, none⟩ = some (.int .i64 x.pos.1) := (HX2.out.bel hb).at 5 rfl; have c6 : w3.cell? ⟨w.heap.size, 6, none⟩ = some (.int .i64 x.pos.2) := (HX2.out.bel hb).at 6 rfl; have e0 : w3.cell? ⟨w.heap.size + 1, 0, none⟩ = some (.int .u8 0) := (HT2.out.bel hb).at 0 rfl; have e1 : w3.cell? ⟨w.heap.size + 1, 1, none⟩ = some (.int .u8 0) := (HT2.out.bel hb).at 1 rfl; have e2 : w3.cell? ⟨w.heap.size + 1, 2, none⟩ = some (.string ⟨#[]⟩) := (HT2.out.bel hb).at 2 rfl; have e3 : w3.cell? ⟨w.heap.size + 1, 3, none⟩ = some (.string ⟨#[]⟩) := (HT2.out.bel hb).at 3 rfl; have e4 : w3.cell? ⟨w.heap.size + 1, 4, none⟩ = some (.slice none 0 0) := (HT2.out.bel hb).at 4 rfl; have e5 : w3.cell? ⟨w.heap.size + 1, 5, none⟩ = some (.int .i64 0) := (HT2.out.bel hb).at 5 rfl; have e6 : w3.cell? ⟨w.heap.size + 1, 6, none⟩ = some (.int .i64 0) := (HT2.out.bel hb).at 6 rfl; have f0 : w3.frozen? ⟨w.heap.size + 1, 0, none⟩ = false := (HT2.out.bel hb).fr 0; have f1 : w3.frozen? ⟨w.heap.size + 1, 1, none⟩ = false := (HT2.out.bel hb).fr 1; have f2 : w3.frozen? ⟨w.heap.size + 1, 2, none⟩ = false := (HT2.out.bel hb).fr 2; have f3 : w3.frozen? ⟨w.heap.size + 1, 3, none⟩ = false := (HT2.out.bel hb).fr 3; have f4 : w3.frozen? ⟨w.heap.size + 1, 4, none⟩ = false := (HT2.out.bel hb).fr 4; have f5 : w3.frozen? ⟨w.heap.size + 1, 5, none⟩ = false := (HT2.out.bel hb).fr 5; have f6 : w3.frozen? ⟨w.heap.size + 1, 6, none⟩ = false := (HT2.out.bel hb).fr 6; have f8 : w3.frozen? ⟨w.heap.size, 4, none⟩ = false := (HX2.out.bel hb).fr 4; have HT3 := hid (HT2.out.bel hb); have HG3 := hid hg3; have HB3 := hid (HB2.out.trans (hb.mono HB2.out.size)); clear hg3 hb x4)
 have hs := HS2.out
 have hs3 := HB3.out.size
 have HT3 := HT3.out
 obtain ⟨w4, hw4⟩ : ∃ W, w3.setCell ⟨w.heap.size, 4, none⟩ (.slice p3 x.args.length q3) = W := ⟨_, rfl⟩
 have HT4 : BxL 26 (w.heap.size + 1) [.int .u8 0, .int .u8 0, .string ⟨#[]⟩, .string ⟨#[]⟩, .slice none 0 0, .int .i64 0, .int .i64 0] w4 := by rw [← hw4]; exact HT3.keep (heap_ot (by omega) _)
 obtain ⟨w5, hw5⟩ : ∃ W, ((((((w4.setCell ⟨w.heap.size + 1, 0, none⟩ (.int .u8 (x.kind : Int))).setCell ⟨w.heap.size + 1, 1, none⟩ (.int .u8 (x.op : Int))).setCell ⟨w.heap.size + 1, 2, none⟩ (.string ⟨x.dst.toArray⟩)).setCell ⟨w.heap.size + 1, 3, none⟩ (.string ⟨x.nm.toArray⟩)).setCell ⟨w.heap.size + 1, 4, none⟩ (.slice p3 x.args.length q3)).setCell ⟨w.heap.size + 1, 5, none⟩ (.int .i64 x.pos.1)).setCell ⟨w.heap.size + 1, 6, none⟩ (.int .i64 x.pos.2) = W := ⟨_, rfl⟩
 rw [hw4, hw5]
 have HT5 : BxL 26 (w.heap.size + 1) [.int .u8 (x.kind : Int), .int .u8 (x.op : Int), .string ⟨x.dst.toArray⟩, .string ⟨x.nm.toArray⟩, .slice p3 x.args.length q3, .int .i64 x.pos.1, .int .i64 x.pos.2] w5 := by rw [← hw5]; exact ((((((HT4.set 0 _).set 1 _).set 2 _).set 3 _).set 4 _).set 5 _).set 6 _
 have HO5 : ∀ k, k ≠ w.heap.size → k ≠ w.heap.size + 1 → w5.heap[k]? = w3.heap[k]? := fun k h1 h2 => by rw [← hw5, ← hw4, heap_ot h2, heap_ot h2, heap_ot h2, heap_ot h2, heap_ot h2, heap_ot h2, heap_ot h2, heap_ot h1]
 have HZ5 : w5.heap.size = w3.heap.size := by rw [← hw5, ← hw4]; simp only [World.size_setCell]
 have HQ5 : w5.os = w3.os ∧ w5.tape = w3.tape ∧ w5.output = w3.output := by rw [← hw5, ← hw4]; simp only [World.setCell, and_self]
 have e0 : w5.cell? ⟨w.heap.size + 1, 0, none⟩ = some (.int .u8 (x.kind : Int)) := HT5.at 0 rfl
 have e1 : w5.cell? ⟨w.heap.size + 1, 1, none⟩ = some (.int .u8 (x.op : Int)) := HT5.at 1 rfl
 have e2 : w5.cell? ⟨w.heap.size + 1, 2, none⟩ = some (.string ⟨x.dst.toArray⟩) := HT5.at 2 rfl
 have e3 : w5.cell? ⟨w.heap.size + 1, 3, none⟩ = some (.string ⟨x.nm.toArray⟩) := HT5.at 3 rfl
 have e4 : w5.cell? ⟨w.heap.size + 1, 4, none⟩ = some (.slice p3 x.args.length q3) := HT5.at 4 rfl
 have e5 : w5.cell? ⟨w.heap.size + 1, 5, none⟩ = some (.int .i64 x.pos.1) := HT5.at 5 rfl
 have e6 : w5.cell? ⟨w.heap.size + 1, 6, none⟩ = some (.int .i64 x.pos.2) := HT5.at 6 rfl
 clear hw4 hw5 HT4 HT5
 refine bodyPost_ret (v := .agg #[.int .u8 (x.kind : Int), .int .u8 (x.op : Int), .string ⟨x.dst.toArray⟩, .string ⟨x.nm.toArray⟩, .slice p3 x.args.length q3, .int .i64 x.pos.1, .int .i64 x.pos.2]) (by simp [results, Tryd.results7, go_sem, e0, e1, e2, e3, e4, e5, e6]) rfl ?_
 refine ⟨_, rfl, ?_, ?_⟩
 ·refine ag_keepOwn (ag_base HG3.out (by omega)) (by rw [HZ5]; exact Nat.le_refl _) fun j hj => ?_
  have hj2 := (HG3.out.lt j hj).1
  exact HO5 j (by omega) (by omega)
 ·refine HB3.out.trans (But.below (F := fun k => k = w.heap.size ∨ k = w.heap.size + 1) ⟨HQ5.1, HQ5.2.1, HQ5.2.2, by rw [HZ5]; exact Nat.le_refl _, fun k hk hF => ?_⟩ HB3.out.size fun k hk => by omega)
  exact HO5 k (fun e => hF (.inl e)) (fun e => hF (.inr e))

end Go.Proofs.YtoofbgoeipijcaaDoor
