/-
 Checks that panic: need; the declaration of a name.
 Blocks of cells that are known whole.
 Records appended to a slice under way: one law at the operation, for any kind of records.
-/
import Derived.Test.YtoofbgoeipijcaaDoorUB8
import Derived.Test.YtoofbgoeipijcaaDoorUSPrM
namespace Go.Proofs.YtoofbgoeipijcaaDoor
set_option linter.unusedSimpArgs false
set_option linter.unusedVariables false
open Go.RowKit Go.Shelf
attribute [local go_sem] Oper.semAt_some

abbrev posV (p : Int × Int) : Value := .agg #[.int .i64 p.1, .int .i64 p.2]
/-- What a check panics with. -/
def fltC (f : Flt) : List PanicEntry := [{ v := .iface 86 (.agg #[.int .i64 f.1.1, .int .i64 f.1.2, .int .i64 f.2]), recovered := false }]
/-- But for blocks of F, the old ones are as they were. -/
structure But (F : Nat → Prop) (w w' : World) : Prop where
 os : w'.os = w.os
 tape : w'.tape = w.tape
 output : w'.output = w.output
 size : w.heap.size ≤ w'.heap.size
 block : ∀ k, k < w.heap.size → ¬ F k → w'.heap[k]? = w.heap[k]?
theorem But.refl (F : Nat → Prop) (w : World) : But F w w := ⟨rfl, rfl, rfl, Nat.le_refl _, fun _ _ _ => rfl⟩
theorem But.of_below {w w' : World} (F : Nat → Prop) (h : Below w.heap.size w w') : But F w w' := ⟨h.os, h.tape, h.output, h.size, fun k hk _ => h.block k hk⟩
theorem But.trans {F : Nat → Prop} {a b c : World} (h : But F a b) (k : But F b c) : But F a c :=
 ⟨k.os.trans h.os, k.tape.trans h.tape, k.output.trans h.output, Nat.le_trans h.size k.size, fun i hi hF => (k.block i (Nat.lt_of_lt_of_le hi h.size) hF).trans (h.block i hi hF)⟩
theorem But.below {F : Nat → Prop} {w w' : World} {B : Nat} (h : But F w w') (hB : B ≤ w.heap.size) (hF : ∀ k, F k → B ≤ k) : Below B w w' :=
 ⟨h.os, h.tape, h.output, h.size, fun k hk => h.block k (by omega) fun hf => by have := hF k hf; omega⟩
theorem But.mono {F G : Nat → Prop} {w w' : World} (h : But F w w') (hFG : ∀ k, F k → G k) : But G w w' := ⟨h.os, h.tape, h.output, h.size, fun k hk hg => h.block k hk fun hf => hg (hFG k hf)⟩
theorem But.of_grown {w w' : World} {r : Nat} (h : w.grownBy w' (some r)) : But (fun k => k = r) w w' := ⟨h.os, h.tape, h.output, h.size, fun k hk hF => h.block k hk fun e => by cases e; exact hF rfl⟩
/-- The laid variables are as they were when the heap had B blocks. -/
def PrB (B : Nat) (w : World) : Prop := ∃ w0, PrE w0 ∧ w0.heap.size = B ∧ Below B w0 w
theorem PrB.e {B : Nat} {w : World} (h : PrB B w) : PrE w := by
 obtain ⟨w0, h0, rfl, hb⟩ := h
 exact h0.below hb
theorem PrB.step {B : Nat} {w w' : World} (h : PrB B w) (hb : Below B w w') : PrB B w' := by
 obtain ⟨w0, h0, hs, hb0⟩ := h
 exact ⟨w0, h0, hs, hb0.trans hb⟩
theorem PrB.size {B : Nat} {w : World} (h : PrB B w) : B ≤ w.heap.size := by
 obtain ⟨w0, h0, rfl, hb⟩ := h
 exact hb.size
theorem PrE.b {w : World} (h : PrE w) : PrB w.heap.size w := ⟨w, h, rfl, Below.refl _ _⟩

set_option maxRecDepth 100000 in
theorem need_true (pos : Int × Int) (er : Int) (w : World) : Calls Tryd.prog 63 #[.bool true, posV pos, .int .i64 er] w fun e w' => e = .returned (.tuple #[]) ∧ Below w.heap.size w w' := by
 unfold posV
 go_enter Tryd.func63, Tryd.ntmps63
 go_wp2
 go_end0
 exact ⟨rfl, (Below.refl _ _).alloc (Nat.le_refl _) _⟩
set_option maxRecDepth 100000 in
theorem need_false (pos : Int × Int) (er : Int) (w : World) : Calls Tryd.prog 63 #[.bool false, posV pos, .int .i64 er] w fun e w' => e = .panicked (fltC (pos, er)) ∧ Below w.heap.size w w' := by
 unfold posV
 go_enter Tryd.func63, Tryd.ntmps63
 go_wp2
 exact ⟨rfl, rfl, (Below.refl _ _).alloc (Nat.le_refl _) _⟩

def DeclBad (f : Flt) (w : World) (e : Ending) (w' : World) : Prop := e = .panicked (fltC f) ∧ Below w.heap.size w w'
def DeclOk (r : Nat) (l : List Bs) (w : World) (e : Ending) (w' : World) : Prop := e = .returned (.tuple #[]) ∧ NmS w' r l ∧ But (fun k => k = r) w w'

set_option maxRecDepth 100000 in
set_option maxHeartbeats 2000000 in
theorem decl_bad (s : Bs) (pos : Int × Int) (r : Nat) (l : List Bs) (B : Nat) (w : World) (hE : PrB B w) (hm : NmS w r l) (hB : B ≤ r) (hn : namedB s = false) :
  Calls Tryd.prog 64 #[.map (some r), .string ⟨s.toArray⟩, posV pos] w (DeclBad (pos, 4) w) := by
 have HE := hid hE; have HM := hid hm; have HBR := hid hB
 have hrs : r < w.heap.size := hm.lt
 have HRS := hid hrs
 have HN := hid hn
 clear hE hm hB hrs hn
 unfold posV
 go_enter Tryd.func64, Tryd.ntmps64
 go_wp2_with fail
 obtain ⟨w0, hw0⟩ : ∃ W, w.alloc (.cells #[.int .i64 pos.1, .int .i64 pos.2] 24) = W := ⟨_, rfl⟩
 have h0 : w0.cell? ⟨w.heap.size, 0, none⟩ = some (.int .i64 pos.1) := by rw [← hw0, cell_al]; simp
 have h1 : w0.cell? ⟨w.heap.size, 1, none⟩ = some (.int .i64 pos.2) := by rw [← hw0, cell_al]; simp
 have hb0 : Below w.heap.size w w0 := by rw [← hw0]; exact (Below.refl _ _).alloc (Nat.le_refl _) _
 rw [hw0]
 clear hw0
 have hb1 := hb0.drew
 have h0' : w0.drew.cell? ⟨w.heap.size, 0, none⟩ = some (.int .i64 pos.1) := h0
 have h1' : w0.drew.cell? ⟨w.heap.size, 1, none⟩ = some (.int .i64 pos.2) := h1
 clear h0 h1 hb0
 have hS : (fun W => W.cell? ⟨w.heap.size, 0, none⟩ = some (.int .i64 pos.1) ∧ W.cell? ⟨w.heap.size, 1, none⟩ = some (.int .i64 pos.2)) w0.drew := ⟨h0', h1'⟩
 have HB1 := hid hb1
 clear hb1 h0' h1'
 have hFa : ∀ f, Fence.wide.fn f := fun _ => trivial
 refine (wpIn_wide (n := 9)).1 ?_
 refine wpIn_onlyP (fun c w' => (DeclBad (pos, 4) w) (.panicked c) w') (fun _ _ _ h => h) ?_
 refine wpIn_region_HJ (fun W => W.cell? ⟨w.heap.size, 0, none⟩ = some (.int .i64 pos.1) ∧ W.cell? ⟨w.heap.size, 1, none⟩ = some (.int .i64 pos.2)) 3 (by kernel_rfl) ?_
 simp only [List.size_toArray, List.length_cons, List.length_nil, Nat.reduceAdd]
 refine wpHJ_pure (v := ?v0) 0 hFa rfl (by kernel_rfl) onlyP_put (Or.inl ⟨by rfl, ?y0⟩) (.inr hS) ?r0
 case y0 => (intro w' _; go_simp; try rfl)
 simp only [Act.put, actP]
 refine wpHJ_take (v := ?v2) 2 hFa rfl (by kernel_rfl) onlyP_put (Or.inl ⟨by rfl, ?y2⟩) hS ?r2
 case y2 => (intro w' hS'; obtain ⟨s0, s1⟩ := hS'; go_simp; try rfl)
 simp only [Act.put, actP]
 refine wpHJ_only 1 (by kernel_rfl) rfl ?_
 intro K hK
 go_simp
 (with_reducible refine (callsIn_wide.2 (named_any s w0.drew (HE.out.step (HB1.out.mono HE.out.size)).e)).mono ?_)
 rintro e w2 ⟨rfl, hb2⟩
 rw [HN.out]
 have hS2 : (fun W => W.cell? ⟨w.heap.size, 0, none⟩ = some (.int .i64 pos.1) ∧ W.cell? ⟨w.heap.size, 1, none⟩ = some (.int .i64 pos.2)) w2 := ⟨(hb2.cell (p := ⟨_, _, none⟩) (cell_size hS.1)).trans hS.1, (hb2.cell (p := ⟨_, _, none⟩) (cell_size hS.2)).trans hS.2⟩
 have HB2 := hid (HB1.out.trans (hb2.mono HB1.out.size))
 clear hb2 hS
 refine hK _ _ (.inr (.inr hS2)) ?_
 clear hK K
 refine wpHJ_only 3 (by kernel_rfl) rfl ?_
 intro K hK
 go_simp
 (with_reducible refine (callsIn_wide.2 (need_false pos 4 w2)).mono ?_)
 rintro e w3 ⟨rfl, hb3⟩
 exact ⟨rfl, rfl, HB2.out.trans (hb3.mono HB2.out.size)⟩

set_option maxRecDepth 100000 in
set_option maxHeartbeats 2000000 in
theorem decl_twice (s : Bs) (pos : Int × Int) (r : Nat) (l : List Bs) (B : Nat) (w : World) (hE : PrB B w) (hm : NmS w r l) (hB : B ≤ r) (hn : namedB s = true) (hc : l.contains s = true) :
  Calls Tryd.prog 64 #[.map (some r), .string ⟨s.toArray⟩, posV pos] w (DeclBad (pos, 8) w) := by
 have HE := hid hE; have HM := hid hm; have HBR := hid hB
 have hrs : r < w.heap.size := hm.lt
 have HRS := hid hrs
 have HN := hid hn
 clear hE hm hB hrs hn
 unfold posV
 go_enter Tryd.func64, Tryd.ntmps64
 go_wp2_with fail
 obtain ⟨w0, hw0⟩ : ∃ W, w.alloc (.cells #[.int .i64 pos.1, .int .i64 pos.2] 24) = W := ⟨_, rfl⟩
 have h0 : w0.cell? ⟨w.heap.size, 0, none⟩ = some (.int .i64 pos.1) := by rw [← hw0, cell_al]; simp
 have h1 : w0.cell? ⟨w.heap.size, 1, none⟩ = some (.int .i64 pos.2) := by rw [← hw0, cell_al]; simp
 have hb0 : Below w.heap.size w w0 := by rw [← hw0]; exact (Below.refl _ _).alloc (Nat.le_refl _) _
 rw [hw0]
 clear hw0
 have hb1 := hb0.drew
 have h0' : w0.drew.cell? ⟨w.heap.size, 0, none⟩ = some (.int .i64 pos.1) := h0
 have h1' : w0.drew.cell? ⟨w.heap.size, 1, none⟩ = some (.int .i64 pos.2) := h1
 clear h0 h1 hb0
 have hS : (fun W => W.cell? ⟨w.heap.size, 0, none⟩ = some (.int .i64 pos.1) ∧ W.cell? ⟨w.heap.size, 1, none⟩ = some (.int .i64 pos.2)) w0.drew := ⟨h0', h1'⟩
 have HB1 := hid hb1
 clear hb1 h0' h1'
 have hFa : ∀ f, Fence.wide.fn f := fun _ => trivial
 refine (wpIn_wide (n := 9)).1 ?_
 refine wpIn_onlyP (fun c w' => (DeclBad (pos, 8) w) (.panicked c) w') (fun _ _ _ h => h) ?_
 refine wpIn_region_HJ (fun W => W.cell? ⟨w.heap.size, 0, none⟩ = some (.int .i64 pos.1) ∧ W.cell? ⟨w.heap.size, 1, none⟩ = some (.int .i64 pos.2)) 3 (by kernel_rfl) ?_
 simp only [List.size_toArray, List.length_cons, List.length_nil, Nat.reduceAdd]
 refine wpHJ_pure (v := ?v0) 0 hFa rfl (by kernel_rfl) onlyP_put (Or.inl ⟨by rfl, ?y0⟩) (.inr hS) ?r0
 case y0 => (intro w' _; go_simp; try rfl)
 simp only [Act.put, actP]
 refine wpHJ_take (v := ?v2) 2 hFa rfl (by kernel_rfl) onlyP_put (Or.inl ⟨by rfl, ?y2⟩) hS ?r2
 case y2 => (intro w' hS'; obtain ⟨s0, s1⟩ := hS'; go_simp; try rfl)
 simp only [Act.put, actP]
 refine wpHJ_only 1 (by kernel_rfl) rfl ?_
 intro K hK
 go_simp
 (with_reducible refine (callsIn_wide.2 (named_any s w0.drew (HE.out.step (HB1.out.mono HE.out.size)).e)).mono ?_)
 rintro e w2 ⟨rfl, hb2⟩
 rw [HN.out]
 have hS2 : (fun W => W.cell? ⟨w.heap.size, 0, none⟩ = some (.int .i64 pos.1) ∧ W.cell? ⟨w.heap.size, 1, none⟩ = some (.int .i64 pos.2)) w2 := ⟨(hb2.cell (p := ⟨_, _, none⟩) (cell_size hS.1)).trans hS.1, (hb2.cell (p := ⟨_, _, none⟩) (cell_size hS.2)).trans hS.2⟩
 have HB2 := hid (HB1.out.trans (hb2.mono HB1.out.size))
 clear hb2 hS
 refine hK _ _ (.inr (.inr hS2)) ?_
 clear hK K
 refine wpHJ_only 3 (by kernel_rfl) rfl ?_
 intro K hK
 go_simp
 (with_reducible refine (callsIn_wide.2 (need_true pos 4 w2)).mono ?_)
 rintro e w3 ⟨rfl, hb3⟩
 have HB3 := hid (HB2.out.trans (hb3.mono HB2.out.size))
 have g0 : w3.cell? ⟨w.heap.size, 0, none⟩ = some (.int .i64 pos.1) := (hb3.cell (p := ⟨_, _, none⟩) (cell_size hS2.1)).trans hS2.1
 have g1 : w3.cell? ⟨w.heap.size, 1, none⟩ = some (.int .i64 pos.2) := (hb3.cell (p := ⟨_, _, none⟩) (cell_size hS2.2)).trans hS2.2
 clear hb3 hS2
 refine hK _ _ (.inl rfl) ?_
 clear hK K
 refine wpHJ_done (by kernel_rfl) ?_ _
 simp only [onlyP, Exit.then]
 clear hFa
 have hm3 : NmS w3 r l := HM.out.keep (HB3.out.block r HRS.out)
 have HC := hid hc
 clear hc
 go_wp2_with (first
  | (at_lookup; refine wpList_lookS rfl _ _ 89 rfl 9 4 Tryd.underlying89 Tryd.underlying9 (.bool false) (fun W => by kernel_rfl) r (nmE l) s rfl hm3 rfl ?_; rw [nmE_get, HC.out])
  | (go_at_call 63; with_reducible refine (need_false pos 8 _).mono ?_; rintro e w4 ⟨rfl, hb4⟩; have HB4 := hid (HB3.out.trans (hb4.mono HB3.out.size)); have hm4 := hm3.keep (hb4.block r hm3.lt); clear hb4 hm3))
 exact ⟨rfl, rfl, HB4.out⟩

set_option maxRecDepth 100000 in
set_option maxHeartbeats 2000000 in
theorem decl_ok (s : Bs) (pos : Int × Int) (r : Nat) (l : List Bs) (B : Nat) (w : World) (hE : PrB B w) (hm : NmS w r l) (hB : B ≤ r) (hn : namedB s = true) (hc : l.contains s = false) :
  Calls Tryd.prog 64 #[.map (some r), .string ⟨s.toArray⟩, posV pos] w (DeclOk r (l ++ [s]) w) := by
 have HE := hid hE; have HM := hid hm; have HBR := hid hB
 have hrs : r < w.heap.size := hm.lt
 have HRS := hid hrs
 have HN := hid hn
 clear hE hm hB hrs hn
 unfold posV
 go_enter Tryd.func64, Tryd.ntmps64
 go_wp2_with fail
 obtain ⟨w0, hw0⟩ : ∃ W, w.alloc (.cells #[.int .i64 pos.1, .int .i64 pos.2] 24) = W := ⟨_, rfl⟩
 have h0 : w0.cell? ⟨w.heap.size, 0, none⟩ = some (.int .i64 pos.1) := by rw [← hw0, cell_al]; simp
 have h1 : w0.cell? ⟨w.heap.size, 1, none⟩ = some (.int .i64 pos.2) := by rw [← hw0, cell_al]; simp
 have hb0 : Below w.heap.size w w0 := by rw [← hw0]; exact (Below.refl _ _).alloc (Nat.le_refl _) _
 rw [hw0]
 clear hw0
 have hb1 := hb0.drew
 have h0' : w0.drew.cell? ⟨w.heap.size, 0, none⟩ = some (.int .i64 pos.1) := h0
 have h1' : w0.drew.cell? ⟨w.heap.size, 1, none⟩ = some (.int .i64 pos.2) := h1
 clear h0 h1 hb0
 have hS : (fun W => W.cell? ⟨w.heap.size, 0, none⟩ = some (.int .i64 pos.1) ∧ W.cell? ⟨w.heap.size, 1, none⟩ = some (.int .i64 pos.2)) w0.drew := ⟨h0', h1'⟩
 have HB1 := hid hb1
 clear hb1 h0' h1'
 have hFa : ∀ f, Fence.wide.fn f := fun _ => trivial
 refine (wpIn_wide (n := 9)).1 ?_
 refine wpIn_onlyP (fun c w' => (DeclOk r (l ++ [s]) w) (.panicked c) w') (fun _ _ _ h => h) ?_
 refine wpIn_region_HJ (fun W => W.cell? ⟨w.heap.size, 0, none⟩ = some (.int .i64 pos.1) ∧ W.cell? ⟨w.heap.size, 1, none⟩ = some (.int .i64 pos.2)) 3 (by kernel_rfl) ?_
 simp only [List.size_toArray, List.length_cons, List.length_nil, Nat.reduceAdd]
 refine wpHJ_pure (v := ?v0) 0 hFa rfl (by kernel_rfl) onlyP_put (Or.inl ⟨by rfl, ?y0⟩) (.inr hS) ?r0
 case y0 => (intro w' _; go_simp; try rfl)
 simp only [Act.put, actP]
 refine wpHJ_take (v := ?v2) 2 hFa rfl (by kernel_rfl) onlyP_put (Or.inl ⟨by rfl, ?y2⟩) hS ?r2
 case y2 => (intro w' hS'; obtain ⟨s0, s1⟩ := hS'; go_simp; try rfl)
 simp only [Act.put, actP]
 refine wpHJ_only 1 (by kernel_rfl) rfl ?_
 intro K hK
 go_simp
 (with_reducible refine (callsIn_wide.2 (named_any s w0.drew (HE.out.step (HB1.out.mono HE.out.size)).e)).mono ?_)
 rintro e w2 ⟨rfl, hb2⟩
 rw [HN.out]
 have hS2 : (fun W => W.cell? ⟨w.heap.size, 0, none⟩ = some (.int .i64 pos.1) ∧ W.cell? ⟨w.heap.size, 1, none⟩ = some (.int .i64 pos.2)) w2 := ⟨(hb2.cell (p := ⟨_, _, none⟩) (cell_size hS.1)).trans hS.1, (hb2.cell (p := ⟨_, _, none⟩) (cell_size hS.2)).trans hS.2⟩
 have HB2 := hid (HB1.out.trans (hb2.mono HB1.out.size))
 clear hb2 hS
 refine hK _ _ (.inr (.inr hS2)) ?_
 clear hK K
 refine wpHJ_only 3 (by kernel_rfl) rfl ?_
 intro K hK
 go_simp
 (with_reducible refine (callsIn_wide.2 (need_true pos 4 w2)).mono ?_)
 rintro e w3 ⟨rfl, hb3⟩
 have HB3 := hid (HB2.out.trans (hb3.mono HB2.out.size))
 have g0 : w3.cell? ⟨w.heap.size, 0, none⟩ = some (.int .i64 pos.1) := (hb3.cell (p := ⟨_, _, none⟩) (cell_size hS2.1)).trans hS2.1
 have g1 : w3.cell? ⟨w.heap.size, 1, none⟩ = some (.int .i64 pos.2) := (hb3.cell (p := ⟨_, _, none⟩) (cell_size hS2.2)).trans hS2.2
 clear hb3 hS2
 refine hK _ _ (.inl rfl) ?_
 clear hK K
 refine wpHJ_done (by kernel_rfl) ?_ _
 simp only [onlyP, Exit.then]
 clear hFa
 have hm3 : NmS w3 r l := HM.out.keep (HB3.out.block r HRS.out)
 have HC := hid hc
 clear hc
 go_wp2_with (first
  | (at_lookup; refine wpList_lookS rfl _ _ 89 rfl 9 4 Tryd.underlying89 Tryd.underlying9 (.bool false) (fun W => by kernel_rfl) r (nmE l) s rfl hm3 rfl ?_; rw [nmE_get, HC.out])
  | (go_at_call 63; with_reducible refine (need_true pos 8 _).mono ?_; rintro e w4 ⟨rfl, hb4⟩; have HB4 := hid (HB3.out.trans (hb4.mono HB3.out.size)); have hm4 := hm3.keep (hb4.block r hm3.lt); clear hb4 hm3)
  | (at_mapUpdate; refine wpList_putS rfl _ _ _ 89 rfl 9 4 Tryd.underlying89 Tryd.underlying9 r (nmE l) s (.bool true) rfl hm4 rfl rfl ?_; intro w5 hm5 hg5; rw [nmE_put] at hm5))
 go_end0
 refine ⟨rfl, ?_, (But.of_below _ HB4.out).trans ((But.of_grown hg5).mono fun k h => h)⟩
 have e : addN l s = l ++ [s] := by unfold addN; rw [HC.out]; rfl
 rw [← e]; exact hm5

end Go.Proofs.YtoofbgoeipijcaaDoor

namespace Go.Proofs.YtoofbgoeipijcaaDoor
set_option linter.unusedSimpArgs false
set_option linter.unusedVariables false
open Go.RowKit Go.Shelf

/-- A block of cells that is known whole. -/
def BxL (t : TypeId) (b : Nat) (cs : List Value) (W : World) : Prop := W.heap[b]? = some (.cells cs.toArray t (0, 0))
theorem BxL.new (t : TypeId) (W : World) (cs : List Value) : BxL t W.heap.size cs (W.alloc (.cells cs.toArray t)) := by unfold BxL; rw [heap_al, if_pos rfl]
theorem BxL.lt {t : TypeId} {b : Nat} {cs : List Value} {W : World} (h : BxL t b cs W) : b < W.heap.size := (Array.getElem?_eq_some_iff.1 h).1
theorem BxL.keep {t : TypeId} {b : Nat} {cs : List Value} {W W' : World} (h : BxL t b cs W) (e : W'.heap[b]? = W.heap[b]?) : BxL t b cs W' := e.trans h
theorem BxL.bel {t : TypeId} {b : Nat} {cs : List Value} {W W' : World} (h : BxL t b cs W) (hb : Below W.heap.size W W') : BxL t b cs W' := h.keep (hb.block b h.lt)
theorem BxL.al {t : TypeId} {b : Nat} {cs : List Value} {W : World} (h : BxL t b cs W) (o : Obj) : BxL t b cs (W.alloc o) := h.bel ((Below.refl _ _).alloc (Nat.le_refl _) _)
theorem BxL.at {t : TypeId} {b : Nat} {cs : List Value} {W : World} (h : BxL t b cs W) (i : Nat) {v : Value} (hv : cs[i]? = some v) : W.cell? ⟨b, i, none⟩ = some v := by
 unfold BxL at h
 simp [World.cell?, h, hv]
theorem BxL.fr {t : TypeId} {b : Nat} {cs : List Value} {W : World} (h : BxL t b cs W) (i : Nat) : W.frozen? ⟨b, i, none⟩ = false := by
 unfold BxL at h
 simp [World.frozen?, h]
/-- The seven cells of an instruction. -/
abbrev inL (x : In) (av : Value) : List Value := [.int .u8 (x.kind : Int), .int .u8 (x.op : Int), .string ⟨x.dst.toArray⟩, .string ⟨x.nm.toArray⟩, av, .int .i64 x.pos.1, .int .i64 x.pos.2]
theorem wrap_next {k L : Nat} (h : k < L) (hL : L ≤ 140737488355328) : wrap64 ((k : Int) + 1) = ((k + 1 : Nat) : Int) := by
 have : wrap64 ((k : Int) + 1) = (k : Int) + 1 := by unfold wrap64; omega
 rw [this]; rfl
theorem meas_next {k L : Nat} (h : k < L) (hL : L ≤ 140737488355328) : L - (intOf (.int .i64 (wrap64 ((k : Int) + 1)))).toNat < L - (intOf (.int .i64 (k : Int))).toNat := by
 rw [wrap_next h hL]; show L - ((k + 1 : Nat) : Int).toNat < L - ((k : Nat) : Int).toNat; omega
theorem BxL.set {t : TypeId} {b : Nat} {cs : List Value} {W : World} (h : BxL t b cs W) (i : Nat) (v : Value) : BxL t b (cs.set i v) (W.setCell ⟨b, i, none⟩ v) := by
 unfold BxL at h ⊢
 simp only [World.setCell, Array.getElem?_modify]
 rw [h]
 simp
theorem heap_ot {W : World} {b i k : Nat} (h : k ≠ b) (v : Value) : (W.setCell ⟨b, i, none⟩ v).heap[k]? = W.heap[k]? := Below.heap_setCell _ _ _ _ h

end Go.Proofs.YtoofbgoeipijcaaDoor

namespace Go.Proofs.YtoofbgoeipijcaaDoor
set_option linter.unusedSimpArgs false
set_option linter.unusedVariables false
open Go.RowKit Go.Shelf

/-- Where the slice lies behind an append: in its own block, or in a new one. -/
def Moved (w : World) (v v' : Value) : Prop := v'.ownBlock = v.ownBlock ∨ ∃ k, v'.ownBlock = some k ∧ w.heap.size ≤ k
theorem Moved.refl (w : World) (v : Value) : Moved w v v := .inl rfl
theorem Moved.trans {w w' : World} {a b c : Value} (h : Moved w a b) (hs : w.heap.size ≤ w'.heap.size) (k : Moved w' b c) : Moved w a c := by
 rcases k with k | ⟨j, k, hj⟩
 ·rcases h with h | ⟨i, h, hi⟩
  ·exact .inl (k.trans h)
  ·exact .inr ⟨i, k.trans h, hi⟩
 ·exact .inr ⟨j, k, by omega⟩
section
variable {P : Program}
theorem wpList_push {α : Type} {K : EK α} {B : Nat} {w : World} {v : Value} {l : List α} {x : α} {cs : List Value} {te : TypeId} {ops : Array Oper} {rest : List Oper} {o : Oper} {a : Act} {Q : Exit → Act → World → Prop}
  (hgd : o.guard = none) (s y : Operand) (t : TypeId) (ho : o.op = .call { callee := .builtin .append, args := #[s, y], argTypes := #[t, t] }) (ht : P.underlying t = some (.slice te))
  (z : Value) (bytes : Nat) (hinfo : (P.info? te).map (fun i => (i.zero, i.size, i.bytes)) = some (some z, K.n, bytes)) (hzs : z.cells.size = K.n)
  (h : GA K B te w v l) (hx : K.E (fun k => k < w.heap.size ∧ v.ownBlock ≠ some k) w cs x) (hs : a.eval s = v) (hy : a.eval y = .slice (some ⟨w.heap.size, 0, none⟩) 1 1)
  (hl : (l.length + 1) * bytes ≤ 140737488355328) (h63 : l.length + 1 ≤ maxLen) (hB : B ≤ w.heap.size)
  (hK : ∀ v' w', GA K B te w' v' (l ++ [x]) → (w.alloc (.cells cs.toArray te)).grownBy w' v.ownBlock → Moved w v v' → wpList P ops Q rest (a.put o.dst v') w') :
  wpList P ops Q (o :: rest) a (w.alloc (.cells cs.toArray te)) := by
 obtain ⟨css, h1, h2⟩ := h.row
 refine wpList_appG (R := fun _ => True) _ hgd s y t ho B te z K.n bytes ht hinfo hzs K.pos v l.length css.flatten hs (h2.alloc _) ⟨w.heap.size, 0, none⟩ 1 1 cs hy (by rw [K.len hx]; omega) (RowR.lit w cs te trivial) (K.one hx) hl h63 (by rw [World.size_alloc]; omega) ?_
 intro v' w' ho' hg hv
 refine hK v' w' ?_ hg ?_
 ·exact GA.push h1 (fun k hk => (h2.lt k hk).2) hx hg ho' hv
 ·rcases hv with e | e
  ·exact .inl e
  ·exact .inr ⟨_, e, by rw [World.size_alloc]; omega⟩
end
theorem GA.below {α : Type} {K : EK α} {B e : Nat} {w w' : World} {v : Value} {l : List α} (h : GA K B e w v l) {o : Obj} (hb : Below B w w) (hg : (w.alloc o).grownBy w' v.ownBlock) (hB : B ≤ w.heap.size) : Below B w w' := by
 refine ⟨hg.os, hg.tape, hg.output, Nat.le_trans (by rw [World.size_alloc]; omega) hg.size, fun k hk => ?_⟩
 rw [hg.block k (by rw [World.size_alloc]; omega) (fun e => by have := (h.lt k e.symm).1; omega), heap_al, if_neg (by omega)]
/-- The world behind an append, seen from an older one. -/
theorem below_push {α : Type} {K : EK α} {B e : Nat} {w0 w w' : World} {v : Value} {l : List α} (h : GA K B e w v l) {o : Obj} (hb : Below B w0 w) (hg : (w.alloc o).grownBy w' v.ownBlock) (hB : B ≤ w.heap.size) : Below B w0 w' :=
 hb.trans (h.below (Below.refl _ _) hg hB)

end Go.Proofs.YtoofbgoeipijcaaDoor
