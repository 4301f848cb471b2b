/-
 The kit: copies of lists.
-/
import Derived.Test.YtoofbgoeipijcaaDoorUSPrZ2
import Derived.Test.YtoofbgoeipijcaaDoorUB26
import Derived.Test.YtoofbgoeipijcaaDoorUB9
import Derived.Deep.DeepCutAuto
namespace Go.Proofs.YtoofbgoeipijcaaDoor
set_option linter.unusedSimpArgs false
set_option linter.unusedVariables false
open Go.RowKit Go.Shelf
attribute [local go_sem] Oper.semAt_some

/-- A slice under way whose row is owned and whose records lie in new blocks. -/
structure GF {α : Type} (K : EK α) (B e : Nat) (w : World) (v : Value) (l : List α) : Prop where
 row : ∃ css, Each K (fun k => B ≤ k ∧ k < w.heap.size ∧ v.ownBlock ≠ some k) w css l ∧ w.ownsRow B e K.n v l.length css.flatten
section
variable {α : Type} {K : EK α} {B B' e : Nat} {w w' : World} {v v' : Value} {l : List α}
theorem Each.weaken {R R' : Nat → Prop} {css : List (List Value)} (h : Each K R w css l) (hf : ∀ k, R k → R' k) : Each K R' w css l := h.keep fun k hk => ⟨hf k hk, rfl⟩
theorem GF.nil (K : EK α) (B e : Nat) (w : World) : GF K B e w (.slice none 0 0) [] := ⟨⟨[], Each.nil, World.ownsRow_nil _ _ _ _⟩⟩
theorem GF.ga (h : GF K B e w v l) : GA K B e w v l := let ⟨css, h1, h2⟩ := h.row; ⟨⟨css, h1.weaken fun k hk => hk.2, h2⟩⟩
theorem GF.slc (h : GF K B e w v l) : ∃ p c, v = .slice p l.length c := h.ga.slc
theorem GF.lt (h : GF K B e w v l) : ∀ k, v.ownBlock = some k → B ≤ k ∧ k < w.heap.size := h.ga.lt
theorem GF.base (h : GF K B e w v l) (hB : B' ≤ B) : GF K B' e w v l := by
 obtain ⟨css, h1, h2⟩ := h.row
 refine ⟨⟨css, h1.weaken fun k hk => ⟨Nat.le_trans hB hk.1, hk.2⟩, h2.1, ?_⟩⟩
 rcases h2.2 with h | ⟨g, cap, cur, h3, hb, h4⟩
 ·exact .inl h
 ·exact .inr ⟨g, cap, cur, h3, Nat.le_trans hB hb, h4⟩
theorem GF.keepB (h : GF K B e w v l) (hs : w.heap.size ≤ w'.heap.size) (hf : ∀ k, B ≤ k → k < w.heap.size → w'.heap[k]? = w.heap[k]?) : GF K B e w' v l := by
 obtain ⟨css, h1, h2⟩ := h.row
 exact ⟨⟨css, h1.keep fun k hk => ⟨⟨hk.1, Nat.lt_of_lt_of_le hk.2.1 hs, hk.2.2⟩, hf k hk.1 hk.2.1⟩, owns_keepG h2 fun j hj => hf j (h2.lt j hj).1 (h2.lt j hj).2⟩⟩
theorem GF.keep (h : GF K B e w v l) (hb : Below w.heap.size w w') : GF K B e w' v l := h.keepB hb.size fun k _ hk => hb.block k hk
/-- What is gathered reads, in new blocks. -/
theorem GF.sl (h : GF K B e w v l) (hl : l.length ≤ 140737488355328) : SlG K (fun k => B ≤ k ∧ k < w.heap.size) w v l := by
 obtain ⟨css, h1, h2⟩ := h.row
 exact SlG.ofOwn (h1.weaken fun k hk => ⟨hk.1, hk.2.1⟩) h2 hl fun k hk => h2.lt k hk
theorem GF.push {x : α} {css : List (List Value)} {cs : List Value} {o : Obj} (h : Each K (fun k => B ≤ k ∧ k < w.heap.size ∧ v.ownBlock ≠ some k) w css l) (hl : ∀ k, v.ownBlock = some k → k < w.heap.size)
  (hx : K.E (fun k => B ≤ k ∧ k < w.heap.size ∧ v.ownBlock ≠ some k) w cs x) (hg : (w.alloc o).grownBy w' v.ownBlock) (ho : w'.ownsRow B e K.n v' (l.length + 1) (css.flatten ++ cs)) (hv : v'.ownBlock = v.ownBlock ∨ v'.ownBlock = some (w.alloc o).heap.size) : GF K B e w' v' (l ++ [x]) := by
 have hga := (World.grownBy_alloc w o v.ownBlock).trans hg
 have hn : ∀ k, (B ≤ k ∧ k < w.heap.size ∧ v.ownBlock ≠ some k) → (B ≤ k ∧ k < w'.heap.size ∧ v'.ownBlock ≠ some k) ∧ w'.heap[k]? = w.heap[k]? := fun k hk => by
  refine ⟨⟨hk.1, Nat.lt_of_lt_of_le hk.2.1 hga.size, fun e => ?_⟩, hga.block k hk.2.1 fun e => hk.2.2 e.symm⟩
  rcases hv with e' | e'
  ·exact hk.2.2 (e'.symm.trans e)
  ·rw [e'] at e; rw [World.size_alloc] at e; cases e; omega
 refine ⟨⟨css ++ [cs], (h.keep hn).snoc (K.keep hx hn), ?_⟩⟩
 rw [List.length_append, List.flatten_append]
 simpa using ho
end
theorem GA.gfS {B e : Nat} {w : World} {v : Value} {l : List Bs} (h : GA kStr B e w v l) : GF kStr B e w v l := let ⟨css, h1, h2⟩ := h.row; ⟨⟨css, ⟨h1.1, h1.2⟩, h2⟩⟩
theorem GA.gfA {B e : Nat} {w : World} {v : Value} {l : List Ag} (h : GA kAg B e w v l) : GF kAg B e w v l := let ⟨css, h1, h2⟩ := h.row; ⟨⟨css, ⟨h1.1, h1.2⟩, h2⟩⟩
theorem GA.gfR {B e : Nat} {w : World} {v : Value} {l : List Ar} (h : GA kAr B e w v l) : GF kAr B e w v l := let ⟨css, h1, h2⟩ := h.row; ⟨⟨css, ⟨h1.1, h1.2⟩, h2⟩⟩
section
variable {P : Program}
theorem wpList_pushF {α : Type} {K : EK α} {B : Nat} {w : World} {v : Value} {l : List α} {x : α} {cs : List Value} {te : TypeId} {ops : Array Oper} {rest : List Oper} {o : Oper} {a : Act} {Q : Exit → Act → World → Prop}
  (hgd : o.guard = none) (s y : Operand) (t : TypeId) (ho : o.op = .call { callee := .builtin .append, args := #[s, y], argTypes := #[t, t] }) (ht : P.underlying t = some (.slice te))
  (z : Value) (bytes : Nat) (hinfo : (P.info? te).map (fun i => (i.zero, i.size, i.bytes)) = some (some z, K.n, bytes)) (hzs : z.cells.size = K.n)
  (h : GF K B te w v l) (hx : K.E (fun k => B ≤ k ∧ k < w.heap.size ∧ v.ownBlock ≠ some k) w cs x) (hs : a.eval s = v) (hy : a.eval y = .slice (some ⟨w.heap.size, 0, none⟩) 1 1)
  (hl : (l.length + 1) * bytes ≤ 140737488355328) (h63 : l.length + 1 ≤ maxLen) (hB : B ≤ w.heap.size)
  (hK : ∀ v' w', GF K B te w' v' (l ++ [x]) → (w.alloc (.cells cs.toArray te)).grownBy w' v.ownBlock → Moved w v v' → wpList P ops Q rest (a.put o.dst v') w') :
  wpList P ops Q (o :: rest) a (w.alloc (.cells cs.toArray te)) := by
 obtain ⟨css, h1, h2⟩ := h.row
 refine wpList_appG (R := fun _ => True) _ hgd s y t ho B te z K.n bytes ht hinfo hzs K.pos v l.length css.flatten hs (h2.alloc _) ⟨w.heap.size, 0, none⟩ 1 1 cs hy (by rw [K.len hx]; omega) (RowR.lit w cs te trivial) (K.one hx) hl h63 (by rw [World.size_alloc]; omega) ?_
 intro v' w' ho' hg hv
 refine hK v' w' ?_ hg ?_
 ·exact GF.push h1 (fun k hk => (h2.lt k hk).2) hx hg ho' hv
 ·rcases hv with e | e
  ·exact .inl e
  ·exact .inr ⟨_, e, by rw [World.size_alloc]; omega⟩
end
theorem info_arG : (Tryd.prog.info? 53).map (fun i => (i.zero, i.size, i.bytes)) = some (some (.agg #[.string ⟨#[]⟩, .int .i64 0]), kAr.n, 24) := by kernel_rfl
theorem info_inG : (Tryd.prog.info? 26).map (fun i => (i.zero, i.size, i.bytes)) = some (some (.agg #[.int .u8 0, .int .u8 0, .string ⟨#[]⟩, .string ⟨#[]⟩, .slice none 0 0, .int .i64 0, .int .i64 0]), kIn.n, 80) := by kernel_rfl

set_option maxRecDepth 100000 in
set_option maxHeartbeats 2000000 in
theorem copystrs_any (l : List Bs) (v : Value) (w : World) (h : SlG kStr (· < w.heap.size) w v l) (hl : l.length ≤ 1000000000000) :
  Calls Tryd.prog 28 #[v] w fun e w' => ∃ v', e = .returned v' ∧ GF kStr w.heap.size 9 w' v' l ∧ Below w.heap.size w w' := by
 obtain ⟨p, c, rfl⟩ := h.slc
 have HS := hid h; have HL := hid hl
 clear h hl
 go_enter Tryd.func28, Tryd.ntmps28
 go_wp2
 go_loopw [3, 4] (fun ov iv wr => ∃ k : Nat, k ≤ l.length ∧ iv = .int .i64 (k : Int) ∧ GA kStr w.heap.size 9 wr ov (l.take k) ∧ Below w.heap.size w wr) (fun _ iv _ => l.length - (intOf iv).toNat)
 case atStart => exact ⟨0, Nat.zero_le _, rfl, GA.nil _ _ _ _, Below.refl _ _⟩
 case round =>
  obtain ⟨k, hk, rfl, hga, hbr⟩ := hrel
  obtain ⟨T, hT⟩ : ∃ T, l.take k = T := ⟨_, rfl⟩
  rw [hT] at hga
  have HTD := hid hT
  clear hT
  obtain ⟨po, co, rfl⟩ := hga.slc
  by_cases hlt : k < l.length
  ·obtain ⟨b, off, rfl, hR, hcells⟩ := str_at HS.out (by omega : 0 < l.length)
   have d0 := (hbr.cell (p := ⟨b, off + k, none⟩) hR).trans (hcells k hlt)
   have HSN := hid (show l.take (k + 1) = T ++ [l[k]] from by rw [List.take_succ_eq_append_getElem hlt, HTD.out])
   have HCL := hid (show T.length + 1 ≤ 1000000000000 from by rw [← HTD.out, List.length_take]; have := HL.out; omega)
   have HLT := hid hlt; have HBO := hid hbr; have HGO := hid hga
   clear hcells hR hbr hga HTD
   generalize l[k] = x at *
   clear hlt
   go_wp2_with (at_builtin; refine wpList_push (K := kStr) (x := x) (cs := [.string ⟨x.toArray⟩]) (te := 9) rfl _ _ 35 rfl Tryd.underlying35 _ 16 info_strG rfl HGO.out rfl rfl rfl (by have := HCL.out; omega) (by have := HCL.out; unfold maxLen; omega) HBO.out.size ?_; intro v5 w5 hg5 hgr5 hm5; have HG5 := hid hg5; have HB5 := hid (below_push HGO.out HBO.out hgr5 HBO.out.size); clear hg5 hgr5 hm5)
   go_roundw
   case rel => exact ⟨k + 1, HLT.out, by rw [wrap_next HLT.out HS.out.len], by rw [HSN.out]; exact HG5.out, HB5.out⟩
   case measure => exact meas_next HLT.out HS.out.len
  ·obtain rfl : k = l.length := by omega
   have HBR := hid hbr; have HGA := hid hga
   clear hlt hbr hga
   go_wp2_with fail
   go_ret
   have hga := HGA.out
   have hT := HTD.out
   rw [List.take_length] at hT
   subst hT
   exact ⟨_, rfl, hga.gfS, HBR.out⟩

set_option maxRecDepth 100000 in
set_option maxHeartbeats 2000000 in
theorem copyarrs_any (l : List Ar) (v : Value) (w : World) (h : SlG kAr (· < w.heap.size) w v l) (hl : l.length ≤ 1000000000000) :
  Calls Tryd.prog 29 #[v] w fun e w' => ∃ v', e = .returned v' ∧ GF kAr w.heap.size 53 w' v' l ∧ Below w.heap.size w w' := by
 obtain ⟨p, c, rfl⟩ := h.slc
 have HS := hid h; have HL := hid hl
 clear h hl
 go_enter Tryd.func29, Tryd.ntmps29
 go_wp2
 go_loopw [3, 4] (fun ov iv wr => ∃ k : Nat, k ≤ l.length ∧ iv = .int .i64 (k : Int) ∧ GA kAr w.heap.size 53 wr ov (l.take k) ∧ Below w.heap.size w wr) (fun _ iv _ => l.length - (intOf iv).toNat)
 case atStart => exact ⟨0, Nat.zero_le _, rfl, GA.nil _ _ _ _, Below.refl _ _⟩
 case round =>
  obtain ⟨k, hk, rfl, hga, hbr⟩ := hrel
  obtain ⟨T, hT⟩ : ∃ T, l.take k = T := ⟨_, rfl⟩
  rw [hT] at hga
  have HTD := hid hT
  clear hT
  obtain ⟨po, co, rfl⟩ := hga.slc
  by_cases hlt : k < l.length
  ·obtain ⟨b, off, rfl, hR, hcells⟩ := ar_at HS.out (by omega : 0 < l.length)
   obtain ⟨c0, c1⟩ := hcells k hlt
   have d0 := (hbr.cell (p := ⟨b, off + k * 2, none⟩) hR).trans c0
   have d1 := (hbr.cell (p := ⟨b, off + k * 2 + 1, none⟩) hR).trans c1
   clear c0 c1
   have HSN := hid (show l.take (k + 1) = T ++ [l[k]] from by rw [List.take_succ_eq_append_getElem hlt, HTD.out])
   have HCL := hid (show T.length + 1 ≤ 1000000000000 from by rw [← HTD.out, List.length_take]; have := HL.out; omega)
   have HLT := hid hlt; have HBO := hid hbr; have HGO := hid hga
   clear hcells hR hbr hga HTD
   generalize l[k] = x at *
   clear hlt
   go_wp2_with (at_builtin; refine wpList_push (K := kAr) (x := x) (cs := [.string ⟨x.nm.toArray⟩, .int .i64 x.size]) (te := 53) rfl _ _ 36 rfl Tryd.underlying36 _ 24 info_arG rfl HGO.out rfl rfl rfl (by have := HCL.out; omega) (by have := HCL.out; unfold maxLen; omega) HBO.out.size ?_; intro v5 w5 hg5 hgr5 hm5; have HG5 := hid hg5; have HB5 := hid (below_push HGO.out HBO.out hgr5 HBO.out.size); clear hg5 hgr5 hm5)
   go_roundw
   case rel => exact ⟨k + 1, HLT.out, by rw [wrap_next HLT.out HS.out.len], by rw [HSN.out]; exact HG5.out, HB5.out⟩
   case measure => exact meas_next HLT.out HS.out.len
  ·obtain rfl : k = l.length := by omega
   have HBR := hid hbr; have HGA := hid hga
   clear hlt hbr hga
   go_wp2_with fail
   go_ret
   have hga := HGA.out
   have hT := HTD.out
   rw [List.take_length] at hT
   subst hT
   exact ⟨_, rfl, hga.gfR, HBR.out⟩

set_option maxRecDepth 100000 in
set_option maxHeartbeats 4000000 in
/-- Instructions are copied, with their operands. -/
theorem copyinstrs_any (l : List In) (v : Value) (w : World) (h : SlG kIn (· < w.heap.size) w v l) (hl : l.length ≤ 1000000000000) (ha : ∀ x ∈ l, x.args.length ≤ 5864062014805) :
  Calls Tryd.prog 54 #[v] w fun e w' => ∃ v', e = .returned v' ∧ GF kIn w.heap.size 26 w' v' l ∧ Below w.heap.size w w' := by
 obtain ⟨p, c, rfl⟩ := h.slc
 have HS := hid h; have HL := hid hl; have HA := hid ha
 clear h hl ha
 go_enter Tryd.func54, Tryd.ntmps54
 go_wp2
 go_loopw [3, 4] (fun ov iv wr => ∃ k : Nat, k ≤ l.length ∧ iv = .int .i64 (k : Int) ∧ GF kIn w.heap.size 26 wr ov (l.take k) ∧ Below w.heap.size w wr) (fun _ iv _ => l.length - (intOf iv).toNat)
 case atStart => exact ⟨0, Nat.zero_le _, rfl, GF.nil _ _ _ _, Below.refl _ _⟩
 case round =>
  obtain ⟨k, hk, rfl, hga, hbr⟩ := hrel
  obtain ⟨T, hT⟩ : ∃ T, l.take k = T := ⟨_, rfl⟩
  rw [hT] at hga
  have HTD := hid hT
  clear hT
  obtain ⟨po, co, rfl⟩ := hga.slc
  by_cases hlt : k < l.length
  ·obtain ⟨b, off, rfl, hR, hcells⟩ := in_at HS.out (by omega : 0 < l.length)
   obtain ⟨pi, ci, hargs, q0, q1, q2, q3, q4, q5, q6⟩ := hcells k hlt
   have q0 := (hbr.cell (p := ⟨b, off + k * 7, none⟩) hR).trans q0
   have q1 := (hbr.cell (p := ⟨b, off + k * 7 + 1, none⟩) hR).trans q1
   have q2 := (hbr.cell (p := ⟨b, off + k * 7 + 2, none⟩) hR).trans q2
   have q3 := (hbr.cell (p := ⟨b, off + k * 7 + 3, none⟩) hR).trans q3
   have q4 := (hbr.cell (p := ⟨b, off + k * 7 + 4, none⟩) hR).trans q4
   have q5 := (hbr.cell (p := ⟨b, off + k * 7 + 5, none⟩) hR).trans q5
   have q6 := (hbr.cell (p := ⟨b, off + k * 7 + 6, none⟩) hR).trans q6
   have HAR := hid (hargs.below hbr)
   have HSN := hid (show l.take (k + 1) = T ++ [l[k]] from by rw [List.take_succ_eq_append_getElem hlt, HTD.out])
   have HCL := hid (show T.length + 1 ≤ 1000000000000 from by rw [← HTD.out, List.length_take]; have := HL.out; omega)
   have HAL := hid (HA.out l[k] (List.getElem_mem hlt))
   have HLT := hid hlt; have HBO := hid hbr; have HGO := hid hga
   clear hcells hR hbr hga HTD hargs
   generalize l[k] = x at *
   clear hlt
   go_wp2_with (first
    | (go_at_call 7; (refine (copyinstr_any x _ _ HAR.out HAL.out).mono ?_); rintro e w1 ⟨v1, rfl, hg1, hb1⟩; obtain ⟨p1, c1, rfl⟩ := hg1.slc; have HG1 := hid (hg1.gfA.sl (by have := HAL.out; omega)); have HB1 := hid (HBO.out.trans (hb1.mono HBO.out.size)); have HGK := hid (HGO.out.keep hb1); have HOL := hid (fun k hk => (HGO.out.lt k hk).2); have HZ1 := hid hb1.size; clear hg1 hb1 q0 q1 q2 q3 q4 q5 q6)
    | (at_builtin; refine wpList_pushF (K := kIn) (x := x) (cs := [.int .u8 (x.kind : Int), .int .u8 (x.op : Int), .string ⟨x.dst.toArray⟩, .string ⟨x.nm.toArray⟩, .slice p1 x.args.length c1, .int .i64 x.pos.1, .int .i64 x.pos.2]) (te := 26) rfl _ _ 38 rfl Tryd.underlying38 _ 80 info_inG rfl HGK.out ⟨_, rfl, HG1.out.weaken fun k hk => ⟨Nat.le_trans HBO.out.size hk.1, hk.2, fun e => by have := HOL.out k e; omega⟩⟩ rfl rfl (by have := HCL.out; omega) (by have := HCL.out; unfold maxLen; omega) HB1.out.size ?_; intro v5 w5 hg5 hgr5 hm5; have HG5 := hid hg5; have HB5 := hid (below_push HGK.out.ga HB1.out hgr5 HB1.out.size); clear hg5 hgr5 hm5))
   go_roundw
   case rel => exact ⟨k + 1, HLT.out, by rw [wrap_next HLT.out HS.out.len], by rw [HSN.out]; exact HG5.out, HB5.out⟩
   case measure => exact meas_next HLT.out HS.out.len
  ·obtain rfl : k = l.length := by omega
   have HBR := hid hbr; have HGA := hid hga
   clear hlt hbr hga
   go_wp2_with fail
   go_ret
   have hga := HGA.out
   have hT := HTD.out
   rw [List.take_length] at hT
   subst hT
   exact ⟨_, rfl, hga, HBR.out⟩

end Go.Proofs.YtoofbgoeipijcaaDoor
