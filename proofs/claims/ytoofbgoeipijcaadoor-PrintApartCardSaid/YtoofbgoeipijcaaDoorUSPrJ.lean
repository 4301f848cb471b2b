/-
 The instructions of a function by themselves: prog.instrs.
-/
import Derived.Test.YtoofbgoeipijcaaDoorUSPrF
import Derived.Test.YtoofbgoeipijcaaDoorUSPrL3
import Derived.Deep.DeepCutAuto
namespace Go.Proofs.YtoofbgoeipijcaaDoor
set_option linter.unusedSimpArgs false
set_option linter.unusedVariables false
open Go.RowKit Go.Shelf
attribute [local go_sem] Oper.semAt_some

/-- What holds while the instructions of a function are gone over: m is the set of its labels. -/
structure IL (B : Nat) (w0 : World) (C : CK) (vl : Value) (rs : List Nat) (S : CS) (m : Nat) (lbl st : List Bs) (W : World) : Prop where
 ck : Ck B W C vl rs { S with sites := st }
 nm : NmS W m lbl
 but : But (fun k => k = C.ms) w0 W
 pr : PrB B W
 off : Off B C vl rs m
 ge : w0.heap.size ≤ m
variable {B : Nat} {w0 W W' : World} {C : CK} {vl : Value} {rs : List Nat} {S : CS} {m : Nat} {lbl st : List Bs}
theorem IL.below (h : IL B w0 C vl rs S m lbl st W) (hb : Below W.heap.size W W') : IL B w0 C vl rs S m lbl st W' :=
 ⟨h.ck.below hb, h.nm.keep (hb.block m h.nm.lt), h.but.trans (But.of_below _ hb), h.pr.step (hb.mono h.ck.size), h.off, h.ge⟩
theorem IL.drew (h : IL B w0 C vl rs S m lbl st W) : IL B w0 C vl rs S m lbl st W.drew := h.below (Below.refl _ _).drew
theorem IL.bel (h : IL B w0 C vl rs S m lbl st W) (hB : B ≤ w0.heap.size) : Below B w0 W := h.but.below hB fun k hk => by rw [hk]; exact h.ck.ge.2.2.2.1
theorem IL.c5 (h : IL B w0 C vl rs S m lbl st W) : W.cell? ⟨C.cb, 5, none⟩ = some (.map (some C.mc)) := h.ck.box.at 5 rfl
theorem IL.c6 (h : IL B w0 C vl rs S m lbl st W) : W.cell? ⟨C.cb, 6, none⟩ = some (.map (some C.ma)) := h.ck.box.at 6 rfl
theorem IL.c7 (h : IL B w0 C vl rs S m lbl st W) : W.cell? ⟨C.cb, 7, none⟩ = some (.map (some C.ms)) := h.ck.box.at 7 rfl
theorem IL.site (h : IL B w0 C vl rs S m lbl st W) {s : Bs} (hm : NmS W' C.ms (addN st s)) (hg : W.grownBy W' (some C.ms)) : IL B w0 C vl rs S m lbl (addN st s) W' := by
 have hb := But.of_grown hg
 have h1 := h.ck.setSt hb hm
 refine ⟨h1, h.nm.keep (hb.block m h.nm.lt fun e => h.off.2.2.2.2.1 e), h.but.trans hb, h.pr.step (hb.below h.ck.size fun k hk => by rw [hk]; exact h.ck.ge.2.2.2.1), h.off, h.ge⟩
theorem IL.label (h : IL B w0 C vl rs S m lbl st W) {l : List Bs} (hm : NmS W' m l) (hg : W.grownBy W' (some m)) : IL B w0 C vl rs S m l st W' := by
 have hb := But.of_grown hg
 have hk := h.nm.lt
 refine ⟨h.ck.but hb fun k hk => by rw [hk]; exact h.off, hm, ⟨hb.os.trans h.but.os, hb.tape.trans h.but.tape, hb.output.trans h.but.output, Nat.le_trans h.but.size hb.size, fun k hk hne => (hb.block k (Nat.lt_of_lt_of_le hk h.but.size) (fun e => by have := h.ge; omega)).trans (h.but.block k hk hne)⟩,
  h.pr.step (hb.below h.ck.size fun k hk => by rw [hk]; exact h.off.1), h.off, h.ge⟩

/-- What comes of a function's instructions. -/
def IsPost (B : Nat) (w : World) (C : CK) (vl : Value) (rs : List Nat) (S : CS) (res : Except Flt (List Bs × List Bs)) (e : Ending) (w' : World) : Prop :=
 match res with
 | .error f => e = .panicked (fltC f) ∧ Below B w w'
 | .ok (l, s) => e = .returned (.tuple #[]) ∧ ∃ vl' r, Ck B w' C vl' (rs ++ [r]) { S with sites := s, labels := S.labels ++ [l] } ∧ But (fun k => k = C.cb ∨ k = C.ms ∨ vl.ownBlock = some k) w w' ∧ w.heap.size ≤ r ∧ Moved w vl vl'
theorem IsPost.bad {w : World} {f : Flt} {w' : World} (hb : Below B w w') : IsPost B w C vl rs S (.error f) (.panicked (fltC f)) w' := ⟨rfl, hb⟩
theorem stepM_form {ch ar : List Bs} {mn : Bool} {l s : List Bs} {x : In} (h : (formB x && !(mn && decide (x.kind = 12))) = false) : stepM ch ar mn l s x = .error (x.pos, 4) := by unfold stepM; rw [if_pos h]
theorem stepM_rest {ch ar : List Bs} {mn : Bool} {l s : List Bs} {x : In} (h : (formB x && !(mn && decide (x.kind = 12))) = true) : stepM ch ar mn l s x =
  if x.kind = 5 ∨ x.kind = 6 then (if ch.contains x.nm then .ok (l, s) else .error (x.pos, 6))
  else if x.kind = 2 ∨ x.kind = 3 then (if ar.contains x.nm then .ok (l, s) else .error (x.pos, 6))
  else if x.kind = 10 then (if l.contains x.nm then .error (x.pos, 8) else .ok (l ++ [x.nm], s))
  else if x.kind = 7 then (if s.contains x.nm || decide (s.length < 32) then .ok (l, addN s x.nm) else .error (x.pos, 5))
  else .ok (l, s) := by
 unfold stepM
 rw [if_neg (by rw [h]; decide)]
 split
 ·split <;> rfl
 ·split
  ·split <;> rfl
  ·split
   ·split <;> rfl
   ·split
    ·unfold addN
     by_cases h1 : s.contains x.nm = true
     ·rw [if_pos h1, if_pos h1, h1]; rfl
     ·have h1' : s.contains x.nm = false := by simpa using h1
      rw [if_neg h1, if_neg h1, h1', Bool.false_or]
      by_cases h2 : s.length < 32
      ·rw [if_pos h2, decide_eq_true h2]; rfl
      ·rw [if_neg h2, decide_eq_false h2]; rfl
    ·rfl
def bodyNext (ch ar : List Bs) (mn : Bool) (r : List In) : Except Flt (List Bs × List Bs) → Except Flt (List Bs × List Bs)
 | .error f => .error f
 | .ok (l, s) => bodyM ch ar mn r l s
theorem bodyM_cons (ch ar : List Bs) (mn : Bool) (x : In) (r : List In) (l s : List Bs) : bodyM ch ar mn (x :: r) l s = bodyNext ch ar mn r (stepM ch ar mn l s x) := by
 conv => lhs; unfold bodyM
 cases stepM ch ar mn l s x with
 | error f => rfl
 | ok q => obtain ⟨a, b⟩ := q; rfl

theorem info_nm : (Tryd.prog.info? 89).map (fun i => (i.zero, i.size, i.bytes)) = some (some (.map none), kMap.n, 8) := by kernel_rfl
theorem len_run {P : Program} {w : World} (t kt e ty : TypeId) (ht : P.underlying t = some (.map kt e)) {r : Nat} {d : List Ent} (h : MapS w r d) : (Builtin.len_ #[t] ty #[.map (some r)]).run P w = .ok (.int .i64 (d.length : Int)) w := by
 obtain ⟨es, clk, hb, hr⟩ := h
 have hl : es.size = d.length := by
  have := congrArg List.length hr
  simpa using this
 simp [Builtin.len_, run_underlying ht, MapKept.run_getObj_map hb, goInt, hl, Result.andThen]
set_option maxRecDepth 100000 in
set_option maxHeartbeats 8000000 in
theorem instrs_any (main : Bool) (l : List In) (pos : Int × Int) (v : Value) (w : World) (hck : Ck B w C vl rs S) (hpr : PrB B w) (h : SlG kIn (· < B) w v l) (hko : ∀ x ∈ l, x.kind ≤ 255 ∧ x.op ≤ 255) (hrs : rs.length ≤ 1000)
  (res : Except Flt (List Bs × List Bs)) (hres : instrsM S.chans S.arrays main pos l S.sites = res) :
  Calls Tryd.prog 65 #[.pointer (some ⟨C.cb, 0, none⟩), v, posV pos, .bool main] w (IsPost B w C vl rs S res) := by
 obtain ⟨q, c, rfl⟩ := h.slc
 have HS := hid h; have HBS := hid hck.size; have HCK := hid hck; have HPR := hid hpr; have HKA := hid hko; have HRS := hid hrs
 have hmm := @run_makeMap Tryd.prog
 clear h hck hpr hko hrs
 unfold posV
 by_cases hlen : 1024 < l.length
 ·have HR := hid (show (.error (pos, 5) : Except Flt (List Bs × List Bs)) = res from by rw [← hres]; unfold instrsM; rw [if_pos hlen])
  have t0 : decide ((l.length : Int) ≤ 1024) = false := by simp; omega
  clear hlen hres
  go_enter Tryd.func65, Tryd.ntmps65
  go_wp2_with (go_at_call 63; with_reducible refine (need_false pos 5 _).mono ?_; rintro e w9 ⟨rfl, hb9⟩; have HB9 := hid (((Below.refl _ _).alloc (Nat.le_refl _) _).trans (hb9.mono (by rw [World.size_alloc]; omega))); clear hb9)
  exact ⟨rfl, by rw [← HR.out]; exact IsPost.bad (HB9.out.mono HBS.out)⟩
 have t0 : decide ((l.length : Int) ≤ 1024) = true := by simp; omega
 have HL0 := hid (show bodyM S.chans S.arrays main (l.drop 0) [] S.sites = res from by rw [← hres]; unfold instrsM; rw [if_neg hlen]; rfl)
 clear hlen hres
 go_enter Tryd.func65, Tryd.ntmps65
 go_upto_region 2 with (go_at_call 63; with_reducible refine (need_true pos 5 _).mono ?_; rintro e w1 ⟨rfl, hb1⟩; have hb := ((Below.refl _ _).alloc (Nat.le_refl _) _).trans (hb1.mono (by rw [World.size_alloc]; omega)))
 have HB1 := hid (show Below w.heap.size w w1 from hb)
 clear hb hb1
 go_wp2_with fail
 go_loopw [10, 19] (fun v10 iv wr => ∃ (k : Nat) (lbl st : List Bs), k ≤ l.length ∧ iv = .int .i64 (k : Int) ∧ bodyM S.chans S.arrays main (l.drop k) lbl st = res ∧ IL B w C vl rs S w1.heap.size lbl st wr) (fun _ iv _ => l.length - (intOf iv).toNat)
 case atStart =>
  have hc1 := HCK.out.below HB1.out
  refine ⟨0, [], S.sites, Nat.zero_le _, rfl, HL0.out, ⟨hc1.below ((Below.refl _ _).alloc (Nat.le_refl _) _), NmS.new w1, (But.of_below _ HB1.out).trans (But.of_below _ ((Below.refl _ _).alloc (Nat.le_refl _) _)), HPR.out.step ((HB1.out.alloc HB1.out.size _).mono HBS.out), hc1.apart (Nat.le_refl _), HB1.out.size⟩⟩
 case round =>
  obtain ⟨k, lbl, st, hk, rfl, hm, hil⟩ := hrel
  by_cases hlt : k < l.length
  ·rw [List.drop_eq_getElem_cons hlt, bodyM_cons] at hm
   obtain ⟨b, off, rfl, hR, hcells⟩ := in_at HS.out (by omega : 0 < l.length)
   obtain ⟨pa, ca, hsa, c0, c1, c2, c3, c4, c5, c6⟩ := hcells k hlt
   have hbr := hil.bel HBS.out
   have d0 := (hbr.cell (p := ⟨b, off + k * 7, none⟩) hR).trans c0
   have d1 := (hbr.cell (p := ⟨b, off + k * 7 + 1, none⟩) hR).trans c1
   have d2 := (hbr.cell (p := ⟨b, off + k * 7 + 2, none⟩) hR).trans c2
   have d3 := (hbr.cell (p := ⟨b, off + k * 7 + 3, none⟩) hR).trans c3
   have d4 := (hbr.cell (p := ⟨b, off + k * 7 + 4, none⟩) hR).trans c4
   have d5 := (hbr.cell (p := ⟨b, off + k * 7 + 5, none⟩) hR).trans c5
   have d6 := (hbr.cell (p := ⟨b, off + k * 7 + 6, none⟩) hR).trans c6
   have HSN := hid hm; have HSA0 := hid hsa; have HKO := hid (HKA.out _ (List.getElem_mem hlt))
   have HLT := hid hlt; have HI := hid hil
   clear hcells hsa c0 c1 c2 c3 c4 c5 c6 hR hbr hm hil
   generalize l[k] = x at *
   clear hlt
   go_upto_region 6 with fail
   obtain ⟨wo, hwo⟩ : ∃ W, wr.alloc (.cells #[.int .u8 (x.kind : Int), .int .u8 (x.op : Int), .string ⟨x.dst.toArray⟩, .string ⟨x.nm.toArray⟩, .slice pa x.args.length ca, .int .i64 x.pos.1, .int .i64 x.pos.2] 26) = W := ⟨_, rfl⟩
   have hbo : Below wr.heap.size wr wo := by rw [← hwo]; exact (Below.refl _ _).alloc (Nat.le_refl _) _
   have hbx : BxL 26 wr.heap.size (inL x (.slice pa x.args.length ca)) wo := by rw [← hwo]; exact BxL.new _ _ _
   rw [hwo]
   have HIO := hid (HI.out.below hbo)
   have HBX := hid hbx
   clear hwo hbo hbx d0 d1 d2 d3 d4 d5 d6
   go_cut [] (fun wx => (formB x && !(main && decide (x.kind = 12))) = true ∧ IL B w C vl rs S w1.heap.size lbl st wx ∧ BxL 26 wr.heap.size (inL x (.slice pa x.args.length ca)) wx)
   case first =>
    have hS : (fun W => W.cell? ⟨wr.heap.size, 0, none⟩ = some (.int .u8 (x.kind : Int)) ∧ W.cell? ⟨wr.heap.size, 1, none⟩ = some (.int .u8 (x.op : Int)) ∧ W.cell? ⟨wr.heap.size, 2, none⟩ = some (.string ⟨x.dst.toArray⟩) ∧ W.cell? ⟨wr.heap.size, 3, none⟩ = some (.string ⟨x.nm.toArray⟩) ∧ W.cell? ⟨wr.heap.size, 4, none⟩ = some (.slice pa x.args.length ca) ∧ W.cell? ⟨wr.heap.size, 5, none⟩ = some (.int .i64 x.pos.1) ∧ W.cell? ⟨wr.heap.size, 6, none⟩ = some (.int .i64 x.pos.2)) wo.drew := ⟨HBX.out.at 0 rfl, HBX.out.at 1 rfl, HBX.out.at 2 rfl, HBX.out.at 3 rfl, HBX.out.at 4 rfl, HBX.out.at 5 rfl, HBX.out.at 6 rfl⟩
    have HID := hid HIO.out.drew
    have HBXD := hid (show BxL 26 wr.heap.size (inL x (.slice pa x.args.length ca)) wo.drew from HBX.out)
    have HSA := hid (show SlG kAg (· < wo.drew.heap.size) wo.drew (.slice pa x.args.length ca) x.args from HSA0.out.keep fun i hi => ⟨Nat.lt_of_lt_of_le hi HID.out.ck.size, (HID.out.bel HBS.out).block i hi⟩)
    cases hfb : formB x with
    | false =>
     have HFB := hid hfb
     have HST := hid (show (.error (x.pos, 4) : Except Flt (List Bs × List Bs)) = res from by rw [← HSN.out, stepM_form (by rw [hfb]; rfl)]; rfl)
     clear hfb
     have hFa : ∀ f, Fence.wide.fn f := fun _ => trivial
     refine (wpIn_wide (n := 9)).1 ?_
     refine wpIn_onlyP (fun c w' => IsPost B w C vl rs S res (.panicked c) w') (fun _ _ _ h => h) ?_
     refine wpIn_region_HJ (fun W => W.cell? ⟨wr.heap.size, 0, none⟩ = some (.int .u8 (x.kind : Int)) ∧ W.cell? ⟨wr.heap.size, 1, none⟩ = some (.int .u8 (x.op : Int)) ∧ W.cell? ⟨wr.heap.size, 2, none⟩ = some (.string ⟨x.dst.toArray⟩) ∧ W.cell? ⟨wr.heap.size, 3, none⟩ = some (.string ⟨x.nm.toArray⟩) ∧ W.cell? ⟨wr.heap.size, 4, none⟩ = some (.slice pa x.args.length ca) ∧ W.cell? ⟨wr.heap.size, 5, none⟩ = some (.int .i64 x.pos.1) ∧ W.cell? ⟨wr.heap.size, 6, none⟩ = some (.int .i64 x.pos.2)) 13 (by kernel_rfl) ?_
     simp only [List.size_toArray, List.length_cons, List.length_nil, Nat.reduceAdd]
     refine wpHJ_pure (v := ?vfa11) 11 hFa rfl (by kernel_rfl) onlyP_put (Or.inl ⟨by rfl, ?yfa11⟩) (.inr hS) ?rfa11
     case yfa11 => (intro w' _; go_simp; try rfl)
     simp only [Act.put, actP]
     refine wpHJ_take (v := ?vfa12) 12 hFa rfl (by kernel_rfl) onlyP_put (Or.inl ⟨by rfl, ?yfa12⟩) hS ?rfa12
     case yfa12 => (intro w' hS'; obtain ⟨s0, s1, s2, s3, s4, s5, s6⟩ := hS'; go_simp; try rfl)
     simp only [Act.put, actP]
     refine wpHJ_only 0 (by kernel_rfl) rfl ?_
     intro K hK
     go_simp
     refine hK _ _ (.inr (.inr hS)) ?_
     clear hK K
     refine wpHJ_only 1 (by kernel_rfl) rfl ?_
     intro K hK
     go_simp
     (with_reducible refine (callsIn_wide.2 (formed_any x pa ca B wo.drew HID.out.pr HSA.out HKO.out.1 HKO.out.2)).mono ?_)
     rintro e w2 ⟨rfl, hb2⟩
     rw [HFB.out]
     have hS2 : (fun W => W.cell? ⟨wr.heap.size, 0, none⟩ = some (.int .u8 (x.kind : Int)) ∧ W.cell? ⟨wr.heap.size, 1, none⟩ = some (.int .u8 (x.op : Int)) ∧ W.cell? ⟨wr.heap.size, 2, none⟩ = some (.string ⟨x.dst.toArray⟩) ∧ W.cell? ⟨wr.heap.size, 3, none⟩ = some (.string ⟨x.nm.toArray⟩) ∧ W.cell? ⟨wr.heap.size, 4, none⟩ = some (.slice pa x.args.length ca) ∧ W.cell? ⟨wr.heap.size, 5, none⟩ = some (.int .i64 x.pos.1) ∧ W.cell? ⟨wr.heap.size, 6, none⟩ = some (.int .i64 x.pos.2)) w2 := ⟨(hb2.cell (p := ⟨_, _, none⟩) (cell_size hS.1)).trans hS.1, (hb2.cell (p := ⟨_, _, none⟩) (cell_size hS.2.1)).trans hS.2.1, (hb2.cell (p := ⟨_, _, none⟩) (cell_size hS.2.2.1)).trans hS.2.2.1, (hb2.cell (p := ⟨_, _, none⟩) (cell_size hS.2.2.2.1)).trans hS.2.2.2.1, (hb2.cell (p := ⟨_, _, none⟩) (cell_size hS.2.2.2.2.1)).trans hS.2.2.2.2.1, (hb2.cell (p := ⟨_, _, none⟩) (cell_size hS.2.2.2.2.2.1)).trans hS.2.2.2.2.2.1, (hb2.cell (p := ⟨_, _, none⟩) (cell_size hS.2.2.2.2.2.2)).trans hS.2.2.2.2.2.2⟩
     have HI2 := hid (HID.out.below hb2)
     have HX2 := hid (HBXD.out.bel hb2)
     clear hb2 hS
     refine hK _ _ (.inr (.inr hS2)) ?_
     clear hK K
     refine wpHJ_pure (v := ?vfa2) 2 hFa rfl (by kernel_rfl) onlyP_put (Or.inl ⟨by rfl, ?yfa2⟩) (.inr hS2) ?rfa2
     case yfa2 => (intro w' _; go_simp; try rfl)
     simp only [Act.put, actP]
     refine wpHJ_pure (v := undef) 3 hFa rfl (by kernel_rfl) onlyP_put (Or.inr ⟨by first | (simp [Region.wanted, yielded]; done) | (simp [Region.wanted, yielded, undef]; done), rfl⟩) (.inr hS2) ?rfa3
     simp only [Act.put, actP]
     refine wpHJ_pure (v := undef) 4 hFa rfl (by kernel_rfl) onlyP_put (Or.inr ⟨by first | (simp [Region.wanted, yielded]; done) | (simp [Region.wanted, yielded, undef]; done), rfl⟩) (.inr hS2) ?rfa4
     simp only [Act.put, actP]
     refine wpHJ_pure (v := undef) 5 hFa rfl (by kernel_rfl) onlyP_put (Or.inr ⟨by first | (simp [Region.wanted, yielded]; done) | (simp [Region.wanted, yielded, undef]; done), rfl⟩) (.inr hS2) ?rfa5
     simp only [Act.put, actP]
     refine wpHJ_only 6 (by kernel_rfl) rfl ?_
     intro K hK
     rw [if_neg (by first | (simp [Region.wanted, yielded]; done) | (simp [Region.wanted, yielded, undef]; done))]
     go_simp
     refine hK _ _ (.inr (.inr hS2)) ?_
     clear hK K
     refine wpHJ_pure (v := undef) 7 hFa rfl (by kernel_rfl) onlyP_put (Or.inr ⟨by first | (simp [Region.wanted, yielded]; done) | (simp [Region.wanted, yielded, undef]; done), rfl⟩) (.inr hS2) ?rfa7
     simp only [Act.put, actP]
     refine wpHJ_pure (v := undef) 8 hFa rfl (by kernel_rfl) onlyP_put (Or.inr ⟨by first | (simp [Region.wanted, yielded]; done) | (simp [Region.wanted, yielded, undef]; done), rfl⟩) (.inr hS2) ?rfa8
     simp only [Act.put, actP]
     refine wpHJ_pure (v := undef) 9 hFa rfl (by kernel_rfl) onlyP_put (Or.inr ⟨by first | (simp [Region.wanted, yielded]; done) | (simp [Region.wanted, yielded, undef]; done), rfl⟩) (.inr hS2) ?rfa9
     simp only [Act.put, actP]
     refine wpHJ_pure (v := ?vfa10) 10 hFa rfl (by kernel_rfl) onlyP_put (Or.inl ⟨by rfl, ?yfa10⟩) (.inr hS2) ?rfa10
     case yfa10 => (intro w' _; go_simp; try rfl)
     simp only [Act.put, actP]
     refine wpHJ_only 13 (by kernel_rfl) rfl ?_
     intro K hK
     go_simp
     (with_reducible refine (callsIn_wide.2 (need_false x.pos 4 w2)).mono ?_)
     rintro e w3 ⟨rfl, hb3⟩
     exact ⟨rfl, by rw [← HST.out]; exact IsPost.bad ((HI2.out.below hb3).bel HBS.out)⟩
    | true =>
     have HFB := hid hfb
     cases main with
     | false =>
      have HFM := hid (show (formB x && !(false && decide (x.kind = 12))) = true from by rw [hfb]; rfl)
      clear hfb
      have hFa : ∀ f, Fence.wide.fn f := fun _ => trivial
      refine (wpIn_wide (n := 9)).1 ?_
      refine wpIn_onlyP (fun c w' => IsPost B w C vl rs S res (.panicked c) w') (fun _ _ _ h => h) ?_
      refine wpIn_region_HJ (fun W => W.cell? ⟨wr.heap.size, 0, none⟩ = some (.int .u8 (x.kind : Int)) ∧ W.cell? ⟨wr.heap.size, 1, none⟩ = some (.int .u8 (x.op : Int)) ∧ W.cell? ⟨wr.heap.size, 2, none⟩ = some (.string ⟨x.dst.toArray⟩) ∧ W.cell? ⟨wr.heap.size, 3, none⟩ = some (.string ⟨x.nm.toArray⟩) ∧ W.cell? ⟨wr.heap.size, 4, none⟩ = some (.slice pa x.args.length ca) ∧ W.cell? ⟨wr.heap.size, 5, none⟩ = some (.int .i64 x.pos.1) ∧ W.cell? ⟨wr.heap.size, 6, none⟩ = some (.int .i64 x.pos.2)) 13 (by kernel_rfl) ?_
      simp only [List.size_toArray, List.length_cons, List.length_nil, Nat.reduceAdd]
      refine wpHJ_pure (v := ?vfb11) 11 hFa rfl (by kernel_rfl) onlyP_put (Or.inl ⟨by rfl, ?yfb11⟩) (.inr hS) ?rfb11
      case yfb11 => (intro w' _; go_simp; try rfl)
      simp only [Act.put, actP]
      refine wpHJ_take (v := ?vfb12) 12 hFa rfl (by kernel_rfl) onlyP_put (Or.inl ⟨by rfl, ?yfb12⟩) hS ?rfb12
      case yfb12 => (intro w' hS'; obtain ⟨s0, s1, s2, s3, s4, s5, s6⟩ := hS'; go_simp; try rfl)
      simp only [Act.put, actP]
      refine wpHJ_only 0 (by kernel_rfl) rfl ?_
      intro K hK
      go_simp
      refine hK _ _ (.inr (.inr hS)) ?_
      clear hK K
      refine wpHJ_only 1 (by kernel_rfl) rfl ?_
      intro K hK
      go_simp
      (with_reducible refine (callsIn_wide.2 (formed_any x pa ca B wo.drew HID.out.pr HSA.out HKO.out.1 HKO.out.2)).mono ?_)
      rintro e w2 ⟨rfl, hb2⟩
      rw [HFB.out]
      have hS2 : (fun W => W.cell? ⟨wr.heap.size, 0, none⟩ = some (.int .u8 (x.kind : Int)) ∧ W.cell? ⟨wr.heap.size, 1, none⟩ = some (.int .u8 (x.op : Int)) ∧ W.cell? ⟨wr.heap.size, 2, none⟩ = some (.string ⟨x.dst.toArray⟩) ∧ W.cell? ⟨wr.heap.size, 3, none⟩ = some (.string ⟨x.nm.toArray⟩) ∧ W.cell? ⟨wr.heap.size, 4, none⟩ = some (.slice pa x.args.length ca) ∧ W.cell? ⟨wr.heap.size, 5, none⟩ = some (.int .i64 x.pos.1) ∧ W.cell? ⟨wr.heap.size, 6, none⟩ = some (.int .i64 x.pos.2)) w2 := ⟨(hb2.cell (p := ⟨_, _, none⟩) (cell_size hS.1)).trans hS.1, (hb2.cell (p := ⟨_, _, none⟩) (cell_size hS.2.1)).trans hS.2.1, (hb2.cell (p := ⟨_, _, none⟩) (cell_size hS.2.2.1)).trans hS.2.2.1, (hb2.cell (p := ⟨_, _, none⟩) (cell_size hS.2.2.2.1)).trans hS.2.2.2.1, (hb2.cell (p := ⟨_, _, none⟩) (cell_size hS.2.2.2.2.1)).trans hS.2.2.2.2.1, (hb2.cell (p := ⟨_, _, none⟩) (cell_size hS.2.2.2.2.2.1)).trans hS.2.2.2.2.2.1, (hb2.cell (p := ⟨_, _, none⟩) (cell_size hS.2.2.2.2.2.2)).trans hS.2.2.2.2.2.2⟩
      have HI2 := hid (HID.out.below hb2)
      have HX2 := hid (HBXD.out.bel hb2)
      clear hb2 hS
      refine hK _ _ (.inr (.inr hS2)) ?_
      clear hK K
      refine wpHJ_pure (v := ?vfb2) 2 hFa rfl (by kernel_rfl) onlyP_put (Or.inl ⟨by rfl, ?yfb2⟩) (.inr hS2) ?rfb2
      case yfb2 => (intro w' _; go_simp; try rfl)
      simp only [Act.put, actP]
      refine wpHJ_pure (v := ?vfb3) 3 hFa rfl (by kernel_rfl) onlyP_put (Or.inl ⟨by first | (simp [Region.wanted, yielded]; done) | (simp [Region.wanted, yielded, undef]; done), ?yfb3⟩) (.inr hS2) ?rfb3
      case yfb3 => (intro w' _; go_simp; try rfl)
      simp only [Act.put, actP]
      refine wpHJ_pure (v := ?vfb4) 4 hFa rfl (by kernel_rfl) onlyP_put (Or.inl ⟨by first | (simp [Region.wanted, yielded]; done) | (simp [Region.wanted, yielded, undef]; done), ?yfb4⟩) (.inr hS2) ?rfb4
      case yfb4 => (intro w' _; go_simp; try rfl)
      simp only [Act.put, actP]
      refine wpHJ_pure (v := undef) 5 hFa rfl (by kernel_rfl) onlyP_put (Or.inr ⟨by first | (simp [Region.wanted, yielded]; done) | (simp [Region.wanted, yielded, undef]; done), rfl⟩) (.inr hS2) ?rfb5
      simp only [Act.put, actP]
      refine wpHJ_only 6 (by kernel_rfl) rfl ?_
      intro K hK
      rw [if_neg (by first | (simp [Region.wanted, yielded]; done) | (simp [Region.wanted, yielded, undef]; done))]
      go_simp
      refine hK _ _ (.inr (.inr hS2)) ?_
      clear hK K
      refine wpHJ_pure (v := undef) 7 hFa rfl (by kernel_rfl) onlyP_put (Or.inr ⟨by first | (simp [Region.wanted, yielded]; done) | (simp [Region.wanted, yielded, undef]; done), rfl⟩) (.inr hS2) ?rfb7
      simp only [Act.put, actP]
      refine wpHJ_pure (v := ?vfb8) 8 hFa rfl (by kernel_rfl) onlyP_put (Or.inl ⟨by first | (simp [Region.wanted, yielded]; done) | (simp [Region.wanted, yielded, undef]; done), ?yfb8⟩) (.inr hS2) ?rfb8
      case yfb8 => (intro w' _; go_simp; try rfl)
      simp only [Act.put, actP]
      refine wpHJ_pure (v := ?vfb9) 9 hFa rfl (by kernel_rfl) onlyP_put (Or.inl ⟨by first | (simp [Region.wanted, yielded]; done) | (simp [Region.wanted, yielded, undef]; done), ?yfb9⟩) (.inr hS2) ?rfb9
      case yfb9 => (intro w' _; go_simp; try rfl)
      simp only [Act.put, actP]
      refine wpHJ_pure (v := ?vfb10) 10 hFa rfl (by kernel_rfl) onlyP_put (Or.inl ⟨by rfl, ?yfb10⟩) (.inr hS2) ?rfb10
      case yfb10 => (intro w' _; go_simp; try rfl)
      simp only [Act.put, actP]
      refine wpHJ_only 13 (by kernel_rfl) rfl ?_
      intro K hK
      go_simp
      (with_reducible refine (callsIn_wide.2 (need_true x.pos 4 w2)).mono ?_)
      rintro e w3 ⟨rfl, hb3⟩
      have HI3 := hid (HI2.out.below hb3)
      have HX3 := hid (HX2.out.bel hb3)
      clear hb3 hS2
      refine hK _ _ (.inl rfl) ?_
      clear hK K
      refine wpHJ_done (by kernel_rfl) ?_ _
      simp only [onlyP, Exit.then]
      clear hFa
      go_wp2_with fail
      go_meet
      case rel => exact ⟨HFM.out, HI3.out, HX3.out⟩
     | true =>
      by_cases h12 : x.kind = 12
      ·have t12 : ((x.kind : Int) == 12) = true := by rw [h12]; rfl
       have HST := hid (show (.error (x.pos, 4) : Except Flt (List Bs × List Bs)) = res from by rw [← HSN.out, stepM_form (by rw [hfb, decide_eq_true h12]; rfl)]; rfl)
       clear hfb h12
       have hFa : ∀ f, Fence.wide.fn f := fun _ => trivial
       refine (wpIn_wide (n := 9)).1 ?_
       refine wpIn_onlyP (fun c w' => IsPost B w C vl rs S res (.panicked c) w') (fun _ _ _ h => h) ?_
       refine wpIn_region_HJ (fun W => W.cell? ⟨wr.heap.size, 0, none⟩ = some (.int .u8 (x.kind : Int)) ∧ W.cell? ⟨wr.heap.size, 1, none⟩ = some (.int .u8 (x.op : Int)) ∧ W.cell? ⟨wr.heap.size, 2, none⟩ = some (.string ⟨x.dst.toArray⟩) ∧ W.cell? ⟨wr.heap.size, 3, none⟩ = some (.string ⟨x.nm.toArray⟩) ∧ W.cell? ⟨wr.heap.size, 4, none⟩ = some (.slice pa x.args.length ca) ∧ W.cell? ⟨wr.heap.size, 5, none⟩ = some (.int .i64 x.pos.1) ∧ W.cell? ⟨wr.heap.size, 6, none⟩ = some (.int .i64 x.pos.2)) 13 (by kernel_rfl) ?_
       simp only [List.size_toArray, List.length_cons, List.length_nil, Nat.reduceAdd]
       refine wpHJ_pure (v := ?vfc11) 11 hFa rfl (by kernel_rfl) onlyP_put (Or.inl ⟨by rfl, ?yfc11⟩) (.inr hS) ?rfc11
       case yfc11 => (intro w' _; go_simp; try rfl)
       simp only [Act.put, actP]
       refine wpHJ_take (v := ?vfc12) 12 hFa rfl (by kernel_rfl) onlyP_put (Or.inl ⟨by rfl, ?yfc12⟩) hS ?rfc12
       case yfc12 => (intro w' hS'; obtain ⟨s0, s1, s2, s3, s4, s5, s6⟩ := hS'; go_simp; try rfl)
       simp only [Act.put, actP]
       refine wpHJ_only 0 (by kernel_rfl) rfl ?_
       intro K hK
       go_simp
       refine hK _ _ (.inr (.inr hS)) ?_
       clear hK K
       refine wpHJ_only 1 (by kernel_rfl) rfl ?_
       intro K hK
       go_simp
       (with_reducible refine (callsIn_wide.2 (formed_any x pa ca B wo.drew HID.out.pr HSA.out HKO.out.1 HKO.out.2)).mono ?_)
       rintro e w2 ⟨rfl, hb2⟩
       rw [HFB.out]
       have hS2 : (fun W => W.cell? ⟨wr.heap.size, 0, none⟩ = some (.int .u8 (x.kind : Int)) ∧ W.cell? ⟨wr.heap.size, 1, none⟩ = some (.int .u8 (x.op : Int)) ∧ W.cell? ⟨wr.heap.size, 2, none⟩ = some (.string ⟨x.dst.toArray⟩) ∧ W.cell? ⟨wr.heap.size, 3, none⟩ = some (.string ⟨x.nm.toArray⟩) ∧ W.cell? ⟨wr.heap.size, 4, none⟩ = some (.slice pa x.args.length ca) ∧ W.cell? ⟨wr.heap.size, 5, none⟩ = some (.int .i64 x.pos.1) ∧ W.cell? ⟨wr.heap.size, 6, none⟩ = some (.int .i64 x.pos.2)) w2 := ⟨(hb2.cell (p := ⟨_, _, none⟩) (cell_size hS.1)).trans hS.1, (hb2.cell (p := ⟨_, _, none⟩) (cell_size hS.2.1)).trans hS.2.1, (hb2.cell (p := ⟨_, _, none⟩) (cell_size hS.2.2.1)).trans hS.2.2.1, (hb2.cell (p := ⟨_, _, none⟩) (cell_size hS.2.2.2.1)).trans hS.2.2.2.1, (hb2.cell (p := ⟨_, _, none⟩) (cell_size hS.2.2.2.2.1)).trans hS.2.2.2.2.1, (hb2.cell (p := ⟨_, _, none⟩) (cell_size hS.2.2.2.2.2.1)).trans hS.2.2.2.2.2.1, (hb2.cell (p := ⟨_, _, none⟩) (cell_size hS.2.2.2.2.2.2)).trans hS.2.2.2.2.2.2⟩
       have HI2 := hid (HID.out.below hb2)
       have HX2 := hid (HBXD.out.bel hb2)
       clear hb2 hS
       refine hK _ _ (.inr (.inr hS2)) ?_
       clear hK K
       refine wpHJ_pure (v := ?vfc2) 2 hFa rfl (by kernel_rfl) onlyP_put (Or.inl ⟨by rfl, ?yfc2⟩) (.inr hS2) ?rfc2
       case yfc2 => (intro w' _; go_simp; try rfl)
       simp only [Act.put, actP]
       refine wpHJ_pure (v := ?vfc3) 3 hFa rfl (by kernel_rfl) onlyP_put (Or.inl ⟨by first | (simp [Region.wanted, yielded]; done) | (simp [Region.wanted, yielded, undef]; done), ?yfc3⟩) (.inr hS2) ?rfc3
       case yfc3 => (intro w' _; go_simp; try rfl)
       simp only [Act.put, actP]
       refine wpHJ_pure (v := ?vfc4) 4 hFa rfl (by kernel_rfl) onlyP_put (Or.inl ⟨by first | (simp [Region.wanted, yielded]; done) | (simp [Region.wanted, yielded, undef]; done), ?yfc4⟩) (.inr hS2) ?rfc4
       case yfc4 => (intro w' _; go_simp; try rfl)
       simp only [Act.put, actP]
       refine wpHJ_pure (v := ?vfc5) 5 hFa rfl (by kernel_rfl) onlyP_put (Or.inl ⟨by first | (simp [Region.wanted, yielded]; done) | (simp [Region.wanted, yielded, undef]; done), ?yfc5⟩) (.inr hS2) ?rfc5
       case yfc5 => (intro w' _; go_simp; try rfl)
       simp only [Act.put, actP]
       refine wpHJ_only 6 (by kernel_rfl) rfl ?_
       intro K hK
       rw [if_pos (by first | (simp [Region.wanted, yielded]; done) | (simp [Region.wanted, yielded, undef]; done))]
       go_simp
       refine hK _ _ (.inr (.inr hS2)) ?_
       clear hK K
       refine wpHJ_pure (v := ?vfc7) 7 hFa rfl (by kernel_rfl) onlyP_put (Or.inl ⟨by first | (simp [Region.wanted, yielded]; done) | (simp [Region.wanted, yielded, undef]; done), ?yfc7⟩) (.inr hS2) ?rfc7
       case yfc7 => (intro w' _; go_simp; try rfl)
       simp only [Act.put, actP]
       refine wpHJ_pure (v := ?vfc8) 8 hFa rfl (by kernel_rfl) onlyP_put (Or.inl ⟨by first | (simp [Region.wanted, yielded]; done) | (simp [Region.wanted, yielded, undef]; done), ?yfc8⟩) (.inr hS2) ?rfc8
       case yfc8 => (intro w' _; go_simp; try rfl)
       simp only [Act.put, actP]
       refine wpHJ_pure (v := ?vfc9) 9 hFa rfl (by kernel_rfl) onlyP_put (Or.inl ⟨by first | (simp [Region.wanted, yielded]; done) | (simp [Region.wanted, yielded, undef]; done), ?yfc9⟩) (.inr hS2) ?rfc9
       case yfc9 => (intro w' _; go_simp; try rfl)
       simp only [Act.put, actP]
       refine wpHJ_pure (v := ?vfc10) 10 hFa rfl (by kernel_rfl) onlyP_put (Or.inl ⟨by rfl, ?yfc10⟩) (.inr hS2) ?rfc10
       case yfc10 => (intro w' _; go_simp; try rfl)
       simp only [Act.put, actP]
       refine wpHJ_only 13 (by kernel_rfl) rfl ?_
       intro K hK
       go_simp
       (with_reducible refine (callsIn_wide.2 (need_false x.pos 4 w2)).mono ?_)
       rintro e w3 ⟨rfl, hb3⟩
       exact ⟨rfl, by rw [← HST.out]; exact IsPost.bad ((HI2.out.below hb3).bel HBS.out)⟩
      ·have t12 : ((x.kind : Int) == 12) = false := by simp; omega
       have HFM := hid (show (formB x && !(true && decide (x.kind = 12))) = true from by rw [hfb, decide_eq_false h12]; rfl)
       clear hfb h12
       have hFa : ∀ f, Fence.wide.fn f := fun _ => trivial
       refine (wpIn_wide (n := 9)).1 ?_
       refine wpIn_onlyP (fun c w' => IsPost B w C vl rs S res (.panicked c) w') (fun _ _ _ h => h) ?_
       refine wpIn_region_HJ (fun W => W.cell? ⟨wr.heap.size, 0, none⟩ = some (.int .u8 (x.kind : Int)) ∧ W.cell? ⟨wr.heap.size, 1, none⟩ = some (.int .u8 (x.op : Int)) ∧ W.cell? ⟨wr.heap.size, 2, none⟩ = some (.string ⟨x.dst.toArray⟩) ∧ W.cell? ⟨wr.heap.size, 3, none⟩ = some (.string ⟨x.nm.toArray⟩) ∧ W.cell? ⟨wr.heap.size, 4, none⟩ = some (.slice pa x.args.length ca) ∧ W.cell? ⟨wr.heap.size, 5, none⟩ = some (.int .i64 x.pos.1) ∧ W.cell? ⟨wr.heap.size, 6, none⟩ = some (.int .i64 x.pos.2)) 13 (by kernel_rfl) ?_
       simp only [List.size_toArray, List.length_cons, List.length_nil, Nat.reduceAdd]
       refine wpHJ_pure (v := ?vfd11) 11 hFa rfl (by kernel_rfl) onlyP_put (Or.inl ⟨by rfl, ?yfd11⟩) (.inr hS) ?rfd11
       case yfd11 => (intro w' _; go_simp; try rfl)
       simp only [Act.put, actP]
       refine wpHJ_take (v := ?vfd12) 12 hFa rfl (by kernel_rfl) onlyP_put (Or.inl ⟨by rfl, ?yfd12⟩) hS ?rfd12
       case yfd12 => (intro w' hS'; obtain ⟨s0, s1, s2, s3, s4, s5, s6⟩ := hS'; go_simp; try rfl)
       simp only [Act.put, actP]
       refine wpHJ_only 0 (by kernel_rfl) rfl ?_
       intro K hK
       go_simp
       refine hK _ _ (.inr (.inr hS)) ?_
       clear hK K
       refine wpHJ_only 1 (by kernel_rfl) rfl ?_
       intro K hK
       go_simp
       (with_reducible refine (callsIn_wide.2 (formed_any x pa ca B wo.drew HID.out.pr HSA.out HKO.out.1 HKO.out.2)).mono ?_)
       rintro e w2 ⟨rfl, hb2⟩
       rw [HFB.out]
       have hS2 : (fun W => W.cell? ⟨wr.heap.size, 0, none⟩ = some (.int .u8 (x.kind : Int)) ∧ W.cell? ⟨wr.heap.size, 1, none⟩ = some (.int .u8 (x.op : Int)) ∧ W.cell? ⟨wr.heap.size, 2, none⟩ = some (.string ⟨x.dst.toArray⟩) ∧ W.cell? ⟨wr.heap.size, 3, none⟩ = some (.string ⟨x.nm.toArray⟩) ∧ W.cell? ⟨wr.heap.size, 4, none⟩ = some (.slice pa x.args.length ca) ∧ W.cell? ⟨wr.heap.size, 5, none⟩ = some (.int .i64 x.pos.1) ∧ W.cell? ⟨wr.heap.size, 6, none⟩ = some (.int .i64 x.pos.2)) w2 := ⟨(hb2.cell (p := ⟨_, _, none⟩) (cell_size hS.1)).trans hS.1, (hb2.cell (p := ⟨_, _, none⟩) (cell_size hS.2.1)).trans hS.2.1, (hb2.cell (p := ⟨_, _, none⟩) (cell_size hS.2.2.1)).trans hS.2.2.1, (hb2.cell (p := ⟨_, _, none⟩) (cell_size hS.2.2.2.1)).trans hS.2.2.2.1, (hb2.cell (p := ⟨_, _, none⟩) (cell_size hS.2.2.2.2.1)).trans hS.2.2.2.2.1, (hb2.cell (p := ⟨_, _, none⟩) (cell_size hS.2.2.2.2.2.1)).trans hS.2.2.2.2.2.1, (hb2.cell (p := ⟨_, _, none⟩) (cell_size hS.2.2.2.2.2.2)).trans hS.2.2.2.2.2.2⟩
       have HI2 := hid (HID.out.below hb2)
       have HX2 := hid (HBXD.out.bel hb2)
       clear hb2 hS
       refine hK _ _ (.inr (.inr hS2)) ?_
       clear hK K
       refine wpHJ_pure (v := ?vfd2) 2 hFa rfl (by kernel_rfl) onlyP_put (Or.inl ⟨by rfl, ?yfd2⟩) (.inr hS2) ?rfd2
       case yfd2 => (intro w' _; go_simp; try rfl)
       simp only [Act.put, actP]
       refine wpHJ_pure (v := ?vfd3) 3 hFa rfl (by kernel_rfl) onlyP_put (Or.inl ⟨by first | (simp [Region.wanted, yielded]; done) | (simp [Region.wanted, yielded, undef]; done), ?yfd3⟩) (.inr hS2) ?rfd3
       case yfd3 => (intro w' _; go_simp; try rfl)
       simp only [Act.put, actP]
       refine wpHJ_pure (v := ?vfd4) 4 hFa rfl (by kernel_rfl) onlyP_put (Or.inl ⟨by first | (simp [Region.wanted, yielded]; done) | (simp [Region.wanted, yielded, undef]; done), ?yfd4⟩) (.inr hS2) ?rfd4
       case yfd4 => (intro w' _; go_simp; try rfl)
       simp only [Act.put, actP]
       refine wpHJ_pure (v := ?vfd5) 5 hFa rfl (by kernel_rfl) onlyP_put (Or.inl ⟨by first | (simp [Region.wanted, yielded]; done) | (simp [Region.wanted, yielded, undef]; done), ?yfd5⟩) (.inr hS2) ?rfd5
       case yfd5 => (intro w' _; go_simp; try rfl)
       simp only [Act.put, actP]
       refine wpHJ_only 6 (by kernel_rfl) rfl ?_
       intro K hK
       rw [if_pos (by first | (simp [Region.wanted, yielded]; done) | (simp [Region.wanted, yielded, undef]; done))]
       go_simp
       refine hK _ _ (.inr (.inr hS2)) ?_
       clear hK K
       refine wpHJ_pure (v := ?vfd7) 7 hFa rfl (by kernel_rfl) onlyP_put (Or.inl ⟨by first | (simp [Region.wanted, yielded]; done) | (simp [Region.wanted, yielded, undef]; done), ?yfd7⟩) (.inr hS2) ?rfd7
       case yfd7 => (intro w' _; go_simp; try rfl)
       simp only [Act.put, actP]
       refine wpHJ_pure (v := ?vfd8) 8 hFa rfl (by kernel_rfl) onlyP_put (Or.inl ⟨by first | (simp [Region.wanted, yielded]; done) | (simp [Region.wanted, yielded, undef]; done), ?yfd8⟩) (.inr hS2) ?rfd8
       case yfd8 => (intro w' _; go_simp; try rfl)
       simp only [Act.put, actP]
       refine wpHJ_pure (v := ?vfd9) 9 hFa rfl (by kernel_rfl) onlyP_put (Or.inl ⟨by first | (simp [Region.wanted, yielded]; done) | (simp [Region.wanted, yielded, undef]; done), ?yfd9⟩) (.inr hS2) ?rfd9
       case yfd9 => (intro w' _; go_simp; try rfl)
       simp only [Act.put, actP]
       refine wpHJ_pure (v := ?vfd10) 10 hFa rfl (by kernel_rfl) onlyP_put (Or.inl ⟨by rfl, ?yfd10⟩) (.inr hS2) ?rfd10
       case yfd10 => (intro w' _; go_simp; try rfl)
       simp only [Act.put, actP]
       refine wpHJ_only 13 (by kernel_rfl) rfl ?_
       intro K hK
       go_simp
       (with_reducible refine (callsIn_wide.2 (need_true x.pos 4 w2)).mono ?_)
       rintro e w3 ⟨rfl, hb3⟩
       have HI3 := hid (HI2.out.below hb3)
       have HX3 := hid (HX2.out.bel hb3)
       clear hb3 hS2
       refine hK _ _ (.inl rfl) ?_
       clear hK K
       refine wpHJ_done (by kernel_rfl) ?_ _
       simp only [onlyP, Exit.then]
       clear hFa
       go_wp2_with fail
       go_meet
       case rel => exact ⟨HFM.out, HI3.out, HX3.out⟩
   case rest =>
   obtain ⟨hfm, hic, hxc⟩ := hcut
   have HSN2 := hid (HSN.out)
   rw [stepM_rest hfm] at HSN2
   clear hfm HIO HBX
   have HIC := hid hic; have HX := hid hxc
   have n0 : wc.cell? ⟨wr.heap.size, 0, none⟩ = some (.int .u8 (x.kind : Int)) := hxc.at 0 rfl
   clear hic hxc
   rcases (show x.kind = 5 ∨ x.kind = 6 ∨ x.kind = 2 ∨ x.kind = 3 ∨ x.kind = 10 ∨ x.kind = 7 ∨ (x.kind ≠ 5 ∧ x.kind ≠ 6 ∧ x.kind ≠ 2 ∧ x.kind ≠ 3 ∧ x.kind ≠ 10 ∧ x.kind ≠ 7) by omega) with hkd | hkd | hkd | hkd | hkd | hkd | hkd
   ·have t5 : ((x.kind : Int) == 5) = true := by first | (rw [hkd]; rfl) | (simp; omega)
    rw [if_pos (by omega)] at HSN2
    clear hkd
    go_upto_region 10 with fail
    cases hcs : S.chans.contains x.nm with
    | true =>
     have HCS := hid hcs
     have HST := hid (show bodyM S.chans S.arrays main (l.drop (k + 1)) lbl st = res from by rw [← HSN2.out, hcs]; rfl)
     clear hcs
     have hS : (fun W => W.cell? ⟨C.cb, 5, none⟩ = some (.map (some C.mc)) ∧ W.cell? ⟨wr.heap.size, 3, none⟩ = some (.string ⟨x.nm.toArray⟩) ∧ W.cell? ⟨wr.heap.size, 5, none⟩ = some (.int .i64 x.pos.1) ∧ W.cell? ⟨wr.heap.size, 6, none⟩ = some (.int .i64 x.pos.2)) wc.drew := ⟨HIC.out.c5, HX.out.at 3 rfl, HX.out.at 5 rfl, HX.out.at 6 rfl⟩
     have HID := hid HIC.out.drew
     have HBXD := hid (show BxL 26 wr.heap.size (inL x (.slice pa x.args.length ca)) wc.drew from HX.out)
     have hFa : ∀ f, Fence.wide.fn f := fun _ => trivial
     refine (wpIn_wide (n := 9)).1 ?_
     refine wpIn_onlyP (fun c w' => IsPost B w C vl rs S res (.panicked c) w') (fun _ _ _ h => h) ?_
     refine wpIn_region_HJ (fun W => W.cell? ⟨C.cb, 5, none⟩ = some (.map (some C.mc)) ∧ W.cell? ⟨wr.heap.size, 3, none⟩ = some (.string ⟨x.nm.toArray⟩) ∧ W.cell? ⟨wr.heap.size, 5, none⟩ = some (.int .i64 x.pos.1) ∧ W.cell? ⟨wr.heap.size, 6, none⟩ = some (.int .i64 x.pos.2)) 10 (by kernel_rfl) ?_
     simp only [List.size_toArray, List.length_cons, List.length_nil, Nat.reduceAdd]
     refine wpHJ_take (v := ?vq5a0) 0 hFa rfl (by kernel_rfl) onlyP_put (Or.inl ⟨by rfl, ?yq5a0⟩) hS ?rq5a0
     case yq5a0 => (intro w' hS'; obtain ⟨s0, s1, s2, s3⟩ := hS'; go_simp; try rfl)
     simp only [Act.put, actP]
     refine wpHJ_take (v := ?vq5a1) 1 hFa rfl (by kernel_rfl) onlyP_put (Or.inl ⟨by rfl, ?yq5a1⟩) hS ?rq5a1
     case yq5a1 => (intro w' hS'; obtain ⟨s0, s1, s2, s3⟩ := hS'; go_simp; try rfl)
     simp only [Act.put, actP]
     refine wpHJ_take (v := ?vq5a2) 2 hFa rfl (by kernel_rfl) onlyP_put (Or.inl ⟨by rfl, ?yq5a2⟩) hS ?rq5a2
     case yq5a2 => (intro w' hS'; obtain ⟨s0, s1, s2, s3⟩ := hS'; go_simp; try rfl)
     simp only [Act.put, actP]
     refine wpHJ_take (v := ?vq5a3) 3 hFa rfl (by kernel_rfl) onlyP_put (Or.inl ⟨by rfl, ?yq5a3⟩) hS ?rq5a3
     case yq5a3 => (intro w' hS'; obtain ⟨s0, s1, s2, s3⟩ := hS'; go_simp; try rfl)
     simp only [Act.put, actP]
     refine wpHJ_take (v := ?vq5a4) 4 hFa rfl (by kernel_rfl) onlyP_put (Or.inl ⟨by rfl, ?yq5a4⟩) hS ?rq5a4
     case yq5a4 => (intro w' hS'; obtain ⟨s0, s1, s2, s3⟩ := hS'; go_simp; try rfl)
     simp only [Act.put, actP]
     refine wpHJ_take (v := ?vq5a5) 5 hFa rfl (by kernel_rfl) onlyP_put (Or.inl ⟨by rfl, ?yq5a5⟩) hS ?rq5a5
     case yq5a5 => (intro w' hS'; obtain ⟨s0, s1, s2, s3⟩ := hS'; go_simp; try rfl)
     simp only [Act.put, actP]
     refine wpHJ_take (v := ?vq5a7) 7 hFa rfl (by kernel_rfl) onlyP_put (Or.inl ⟨by rfl, ?yq5a7⟩) hS ?rq5a7
     case yq5a7 => (intro w' hS'; obtain ⟨s0, s1, s2, s3⟩ := hS'; go_simp; try rfl)
     simp only [Act.put, actP]
     refine wpHJ_take (v := ?vq5a8) 8 hFa rfl (by kernel_rfl) onlyP_put (Or.inl ⟨by rfl, ?yq5a8⟩) hS ?rq5a8
     case yq5a8 => (intro w' hS'; obtain ⟨s0, s1, s2, s3⟩ := hS'; go_simp; try rfl)
     simp only [Act.put, actP]
     refine wpHJ_only 6 (by kernel_rfl) rfl ?_
     intro K hK
     have hlk : (Instr.lookup 89 (.map (some C.mc)) (.string ⟨x.nm.toArray⟩) false).run Tryd.prog wc.drew = .ok (.bool true) wc.drew := by
      have h := run_lookS (P := Tryd.prog) (w := wc.drew) (t := 89) (kt := 9) (e := 4) (HID.out.ck.ch : MapS wc.drew C.mc (nmE _)) Tryd.underlying89 Tryd.underlying9 x.nm (.bool false) (by kernel_rfl) false
      rw [if_neg (by decide), nmE_get, HCS.out] at h
      exact h
     go_simp
     refine hK _ _ (.inr (.inr hS)) ?_
     clear hK K
     refine wpHJ_only 9 (by kernel_rfl) rfl ?_
     intro K hK
     go_simp
     (with_reducible refine (callsIn_wide.2 (need_true x.pos 6 wc.drew)).mono ?_)
     rintro e w3 ⟨rfl, hb3⟩
     have HI3 := hid (HID.out.below hb3)
     have HX3 := hid (HBXD.out.bel hb3)
     have hS3 : (fun W => W.cell? ⟨C.cb, 5, none⟩ = some (.map (some C.mc)) ∧ W.cell? ⟨wr.heap.size, 3, none⟩ = some (.string ⟨x.nm.toArray⟩) ∧ W.cell? ⟨wr.heap.size, 5, none⟩ = some (.int .i64 x.pos.1) ∧ W.cell? ⟨wr.heap.size, 6, none⟩ = some (.int .i64 x.pos.2)) w3 := ⟨HI3.out.c5, HX3.out.at 3 rfl, HX3.out.at 5 rfl, HX3.out.at 6 rfl⟩
     clear hb3 hS
     refine hK _ _ (.inr (.inr hS3)) ?_
     clear hK K
     refine wpHJ_done (by kernel_rfl) ?_ _
     simp only [onlyP, Exit.then]
     clear hFa
     go_wp2_with fail
     go_roundw
     case rel => exact ⟨k + 1, _, _, HLT.out, by rw [wrap_next HLT.out HS.out.len], HST.out, HI3.out⟩
     case measure => exact meas_next HLT.out HS.out.len
    | false =>
     have HCS := hid hcs
     have HST := hid (show (.error (x.pos, 6) : Except Flt (List Bs × List Bs)) = res from by rw [← HSN2.out, hcs]; rfl)
     clear hcs
     have hS : (fun W => W.cell? ⟨C.cb, 5, none⟩ = some (.map (some C.mc)) ∧ W.cell? ⟨wr.heap.size, 3, none⟩ = some (.string ⟨x.nm.toArray⟩) ∧ W.cell? ⟨wr.heap.size, 5, none⟩ = some (.int .i64 x.pos.1) ∧ W.cell? ⟨wr.heap.size, 6, none⟩ = some (.int .i64 x.pos.2)) wc.drew := ⟨HIC.out.c5, HX.out.at 3 rfl, HX.out.at 5 rfl, HX.out.at 6 rfl⟩
     have HID := hid HIC.out.drew
     have HBXD := hid (show BxL 26 wr.heap.size (inL x (.slice pa x.args.length ca)) wc.drew from HX.out)
     have hFa : ∀ f, Fence.wide.fn f := fun _ => trivial
     refine (wpIn_wide (n := 9)).1 ?_
     refine wpIn_onlyP (fun c w' => IsPost B w C vl rs S res (.panicked c) w') (fun _ _ _ h => h) ?_
     refine wpIn_region_HJ (fun W => W.cell? ⟨C.cb, 5, none⟩ = some (.map (some C.mc)) ∧ W.cell? ⟨wr.heap.size, 3, none⟩ = some (.string ⟨x.nm.toArray⟩) ∧ W.cell? ⟨wr.heap.size, 5, none⟩ = some (.int .i64 x.pos.1) ∧ W.cell? ⟨wr.heap.size, 6, none⟩ = some (.int .i64 x.pos.2)) 10 (by kernel_rfl) ?_
     simp only [List.size_toArray, List.length_cons, List.length_nil, Nat.reduceAdd]
     refine wpHJ_take (v := ?vq5b0) 0 hFa rfl (by kernel_rfl) onlyP_put (Or.inl ⟨by rfl, ?yq5b0⟩) hS ?rq5b0
     case yq5b0 => (intro w' hS'; obtain ⟨s0, s1, s2, s3⟩ := hS'; go_simp; try rfl)
     simp only [Act.put, actP]
     refine wpHJ_take (v := ?vq5b1) 1 hFa rfl (by kernel_rfl) onlyP_put (Or.inl ⟨by rfl, ?yq5b1⟩) hS ?rq5b1
     case yq5b1 => (intro w' hS'; obtain ⟨s0, s1, s2, s3⟩ := hS'; go_simp; try rfl)
     simp only [Act.put, actP]
     refine wpHJ_take (v := ?vq5b2) 2 hFa rfl (by kernel_rfl) onlyP_put (Or.inl ⟨by rfl, ?yq5b2⟩) hS ?rq5b2
     case yq5b2 => (intro w' hS'; obtain ⟨s0, s1, s2, s3⟩ := hS'; go_simp; try rfl)
     simp only [Act.put, actP]
     refine wpHJ_take (v := ?vq5b3) 3 hFa rfl (by kernel_rfl) onlyP_put (Or.inl ⟨by rfl, ?yq5b3⟩) hS ?rq5b3
     case yq5b3 => (intro w' hS'; obtain ⟨s0, s1, s2, s3⟩ := hS'; go_simp; try rfl)
     simp only [Act.put, actP]
     refine wpHJ_take (v := ?vq5b4) 4 hFa rfl (by kernel_rfl) onlyP_put (Or.inl ⟨by rfl, ?yq5b4⟩) hS ?rq5b4
     case yq5b4 => (intro w' hS'; obtain ⟨s0, s1, s2, s3⟩ := hS'; go_simp; try rfl)
     simp only [Act.put, actP]
     refine wpHJ_take (v := ?vq5b5) 5 hFa rfl (by kernel_rfl) onlyP_put (Or.inl ⟨by rfl, ?yq5b5⟩) hS ?rq5b5
     case yq5b5 => (intro w' hS'; obtain ⟨s0, s1, s2, s3⟩ := hS'; go_simp; try rfl)
     simp only [Act.put, actP]
     refine wpHJ_take (v := ?vq5b7) 7 hFa rfl (by kernel_rfl) onlyP_put (Or.inl ⟨by rfl, ?yq5b7⟩) hS ?rq5b7
     case yq5b7 => (intro w' hS'; obtain ⟨s0, s1, s2, s3⟩ := hS'; go_simp; try rfl)
     simp only [Act.put, actP]
     refine wpHJ_take (v := ?vq5b8) 8 hFa rfl (by kernel_rfl) onlyP_put (Or.inl ⟨by rfl, ?yq5b8⟩) hS ?rq5b8
     case yq5b8 => (intro w' hS'; obtain ⟨s0, s1, s2, s3⟩ := hS'; go_simp; try rfl)
     simp only [Act.put, actP]
     refine wpHJ_only 6 (by kernel_rfl) rfl ?_
     intro K hK
     have hlk : (Instr.lookup 89 (.map (some C.mc)) (.string ⟨x.nm.toArray⟩) false).run Tryd.prog wc.drew = .ok (.bool false) wc.drew := by
      have h := run_lookS (P := Tryd.prog) (w := wc.drew) (t := 89) (kt := 9) (e := 4) (HID.out.ck.ch : MapS wc.drew C.mc (nmE _)) Tryd.underlying89 Tryd.underlying9 x.nm (.bool false) (by kernel_rfl) false
      rw [if_neg (by decide), nmE_get, HCS.out] at h
      exact h
     go_simp
     refine hK _ _ (.inr (.inr hS)) ?_
     clear hK K
     refine wpHJ_only 9 (by kernel_rfl) rfl ?_
     intro K hK
     go_simp
     (with_reducible refine (callsIn_wide.2 (need_false x.pos 6 wc.drew)).mono ?_)
     rintro e w3 ⟨rfl, hb3⟩
     exact ⟨rfl, by rw [← HST.out]; exact IsPost.bad ((HID.out.below hb3).bel HBS.out)⟩
   ·have t5 : ((x.kind : Int) == 5) = false := by first | (rw [hkd]; rfl) | (simp; omega)
    have t6 : ((x.kind : Int) == 6) = true := by first | (rw [hkd]; rfl) | (simp; omega)
    rw [if_pos (by omega)] at HSN2
    clear hkd
    go_upto_region 10 with fail
    cases hcs : S.chans.contains x.nm with
    | true =>
     have HCS := hid hcs
     have HST := hid (show bodyM S.chans S.arrays main (l.drop (k + 1)) lbl st = res from by rw [← HSN2.out, hcs]; rfl)
     clear hcs
     have hS : (fun W => W.cell? ⟨C.cb, 5, none⟩ = some (.map (some C.mc)) ∧ W.cell? ⟨wr.heap.size, 3, none⟩ = some (.string ⟨x.nm.toArray⟩) ∧ W.cell? ⟨wr.heap.size, 5, none⟩ = some (.int .i64 x.pos.1) ∧ W.cell? ⟨wr.heap.size, 6, none⟩ = some (.int .i64 x.pos.2)) wc.drew := ⟨HIC.out.c5, HX.out.at 3 rfl, HX.out.at 5 rfl, HX.out.at 6 rfl⟩
     have HID := hid HIC.out.drew
     have HBXD := hid (show BxL 26 wr.heap.size (inL x (.slice pa x.args.length ca)) wc.drew from HX.out)
     have hFa : ∀ f, Fence.wide.fn f := fun _ => trivial
     refine (wpIn_wide (n := 9)).1 ?_
     refine wpIn_onlyP (fun c w' => IsPost B w C vl rs S res (.panicked c) w') (fun _ _ _ h => h) ?_
     refine wpIn_region_HJ (fun W => W.cell? ⟨C.cb, 5, none⟩ = some (.map (some C.mc)) ∧ W.cell? ⟨wr.heap.size, 3, none⟩ = some (.string ⟨x.nm.toArray⟩) ∧ W.cell? ⟨wr.heap.size, 5, none⟩ = some (.int .i64 x.pos.1) ∧ W.cell? ⟨wr.heap.size, 6, none⟩ = some (.int .i64 x.pos.2)) 10 (by kernel_rfl) ?_
     simp only [List.size_toArray, List.length_cons, List.length_nil, Nat.reduceAdd]
     refine wpHJ_take (v := ?vq6a0) 0 hFa rfl (by kernel_rfl) onlyP_put (Or.inl ⟨by rfl, ?yq6a0⟩) hS ?rq6a0
     case yq6a0 => (intro w' hS'; obtain ⟨s0, s1, s2, s3⟩ := hS'; go_simp; try rfl)
     simp only [Act.put, actP]
     refine wpHJ_take (v := ?vq6a1) 1 hFa rfl (by kernel_rfl) onlyP_put (Or.inl ⟨by rfl, ?yq6a1⟩) hS ?rq6a1
     case yq6a1 => (intro w' hS'; obtain ⟨s0, s1, s2, s3⟩ := hS'; go_simp; try rfl)
     simp only [Act.put, actP]
     refine wpHJ_take (v := ?vq6a2) 2 hFa rfl (by kernel_rfl) onlyP_put (Or.inl ⟨by rfl, ?yq6a2⟩) hS ?rq6a2
     case yq6a2 => (intro w' hS'; obtain ⟨s0, s1, s2, s3⟩ := hS'; go_simp; try rfl)
     simp only [Act.put, actP]
     refine wpHJ_take (v := ?vq6a3) 3 hFa rfl (by kernel_rfl) onlyP_put (Or.inl ⟨by rfl, ?yq6a3⟩) hS ?rq6a3
     case yq6a3 => (intro w' hS'; obtain ⟨s0, s1, s2, s3⟩ := hS'; go_simp; try rfl)
     simp only [Act.put, actP]
     refine wpHJ_take (v := ?vq6a4) 4 hFa rfl (by kernel_rfl) onlyP_put (Or.inl ⟨by rfl, ?yq6a4⟩) hS ?rq6a4
     case yq6a4 => (intro w' hS'; obtain ⟨s0, s1, s2, s3⟩ := hS'; go_simp; try rfl)
     simp only [Act.put, actP]
     refine wpHJ_take (v := ?vq6a5) 5 hFa rfl (by kernel_rfl) onlyP_put (Or.inl ⟨by rfl, ?yq6a5⟩) hS ?rq6a5
     case yq6a5 => (intro w' hS'; obtain ⟨s0, s1, s2, s3⟩ := hS'; go_simp; try rfl)
     simp only [Act.put, actP]
     refine wpHJ_take (v := ?vq6a7) 7 hFa rfl (by kernel_rfl) onlyP_put (Or.inl ⟨by rfl, ?yq6a7⟩) hS ?rq6a7
     case yq6a7 => (intro w' hS'; obtain ⟨s0, s1, s2, s3⟩ := hS'; go_simp; try rfl)
     simp only [Act.put, actP]
     refine wpHJ_take (v := ?vq6a8) 8 hFa rfl (by kernel_rfl) onlyP_put (Or.inl ⟨by rfl, ?yq6a8⟩) hS ?rq6a8
     case yq6a8 => (intro w' hS'; obtain ⟨s0, s1, s2, s3⟩ := hS'; go_simp; try rfl)
     simp only [Act.put, actP]
     refine wpHJ_only 6 (by kernel_rfl) rfl ?_
     intro K hK
     have hlk : (Instr.lookup 89 (.map (some C.mc)) (.string ⟨x.nm.toArray⟩) false).run Tryd.prog wc.drew = .ok (.bool true) wc.drew := by
      have h := run_lookS (P := Tryd.prog) (w := wc.drew) (t := 89) (kt := 9) (e := 4) (HID.out.ck.ch : MapS wc.drew C.mc (nmE _)) Tryd.underlying89 Tryd.underlying9 x.nm (.bool false) (by kernel_rfl) false
      rw [if_neg (by decide), nmE_get, HCS.out] at h
      exact h
     go_simp
     refine hK _ _ (.inr (.inr hS)) ?_
     clear hK K
     refine wpHJ_only 9 (by kernel_rfl) rfl ?_
     intro K hK
     go_simp
     (with_reducible refine (callsIn_wide.2 (need_true x.pos 6 wc.drew)).mono ?_)
     rintro e w3 ⟨rfl, hb3⟩
     have HI3 := hid (HID.out.below hb3)
     have HX3 := hid (HBXD.out.bel hb3)
     have hS3 : (fun W => W.cell? ⟨C.cb, 5, none⟩ = some (.map (some C.mc)) ∧ W.cell? ⟨wr.heap.size, 3, none⟩ = some (.string ⟨x.nm.toArray⟩) ∧ W.cell? ⟨wr.heap.size, 5, none⟩ = some (.int .i64 x.pos.1) ∧ W.cell? ⟨wr.heap.size, 6, none⟩ = some (.int .i64 x.pos.2)) w3 := ⟨HI3.out.c5, HX3.out.at 3 rfl, HX3.out.at 5 rfl, HX3.out.at 6 rfl⟩
     clear hb3 hS
     refine hK _ _ (.inr (.inr hS3)) ?_
     clear hK K
     refine wpHJ_done (by kernel_rfl) ?_ _
     simp only [onlyP, Exit.then]
     clear hFa
     go_wp2_with fail
     go_roundw
     case rel => exact ⟨k + 1, _, _, HLT.out, by rw [wrap_next HLT.out HS.out.len], HST.out, HI3.out⟩
     case measure => exact meas_next HLT.out HS.out.len
    | false =>
     have HCS := hid hcs
     have HST := hid (show (.error (x.pos, 6) : Except Flt (List Bs × List Bs)) = res from by rw [← HSN2.out, hcs]; rfl)
     clear hcs
     have hS : (fun W => W.cell? ⟨C.cb, 5, none⟩ = some (.map (some C.mc)) ∧ W.cell? ⟨wr.heap.size, 3, none⟩ = some (.string ⟨x.nm.toArray⟩) ∧ W.cell? ⟨wr.heap.size, 5, none⟩ = some (.int .i64 x.pos.1) ∧ W.cell? ⟨wr.heap.size, 6, none⟩ = some (.int .i64 x.pos.2)) wc.drew := ⟨HIC.out.c5, HX.out.at 3 rfl, HX.out.at 5 rfl, HX.out.at 6 rfl⟩
     have HID := hid HIC.out.drew
     have HBXD := hid (show BxL 26 wr.heap.size (inL x (.slice pa x.args.length ca)) wc.drew from HX.out)
     have hFa : ∀ f, Fence.wide.fn f := fun _ => trivial
     refine (wpIn_wide (n := 9)).1 ?_
     refine wpIn_onlyP (fun c w' => IsPost B w C vl rs S res (.panicked c) w') (fun _ _ _ h => h) ?_
     refine wpIn_region_HJ (fun W => W.cell? ⟨C.cb, 5, none⟩ = some (.map (some C.mc)) ∧ W.cell? ⟨wr.heap.size, 3, none⟩ = some (.string ⟨x.nm.toArray⟩) ∧ W.cell? ⟨wr.heap.size, 5, none⟩ = some (.int .i64 x.pos.1) ∧ W.cell? ⟨wr.heap.size, 6, none⟩ = some (.int .i64 x.pos.2)) 10 (by kernel_rfl) ?_
     simp only [List.size_toArray, List.length_cons, List.length_nil, Nat.reduceAdd]
     refine wpHJ_take (v := ?vq6b0) 0 hFa rfl (by kernel_rfl) onlyP_put (Or.inl ⟨by rfl, ?yq6b0⟩) hS ?rq6b0
     case yq6b0 => (intro w' hS'; obtain ⟨s0, s1, s2, s3⟩ := hS'; go_simp; try rfl)
     simp only [Act.put, actP]
     refine wpHJ_take (v := ?vq6b1) 1 hFa rfl (by kernel_rfl) onlyP_put (Or.inl ⟨by rfl, ?yq6b1⟩) hS ?rq6b1
     case yq6b1 => (intro w' hS'; obtain ⟨s0, s1, s2, s3⟩ := hS'; go_simp; try rfl)
     simp only [Act.put, actP]
     refine wpHJ_take (v := ?vq6b2) 2 hFa rfl (by kernel_rfl) onlyP_put (Or.inl ⟨by rfl, ?yq6b2⟩) hS ?rq6b2
     case yq6b2 => (intro w' hS'; obtain ⟨s0, s1, s2, s3⟩ := hS'; go_simp; try rfl)
     simp only [Act.put, actP]
     refine wpHJ_take (v := ?vq6b3) 3 hFa rfl (by kernel_rfl) onlyP_put (Or.inl ⟨by rfl, ?yq6b3⟩) hS ?rq6b3
     case yq6b3 => (intro w' hS'; obtain ⟨s0, s1, s2, s3⟩ := hS'; go_simp; try rfl)
     simp only [Act.put, actP]
     refine wpHJ_take (v := ?vq6b4) 4 hFa rfl (by kernel_rfl) onlyP_put (Or.inl ⟨by rfl, ?yq6b4⟩) hS ?rq6b4
     case yq6b4 => (intro w' hS'; obtain ⟨s0, s1, s2, s3⟩ := hS'; go_simp; try rfl)
     simp only [Act.put, actP]
     refine wpHJ_take (v := ?vq6b5) 5 hFa rfl (by kernel_rfl) onlyP_put (Or.inl ⟨by rfl, ?yq6b5⟩) hS ?rq6b5
     case yq6b5 => (intro w' hS'; obtain ⟨s0, s1, s2, s3⟩ := hS'; go_simp; try rfl)
     simp only [Act.put, actP]
     refine wpHJ_take (v := ?vq6b7) 7 hFa rfl (by kernel_rfl) onlyP_put (Or.inl ⟨by rfl, ?yq6b7⟩) hS ?rq6b7
     case yq6b7 => (intro w' hS'; obtain ⟨s0, s1, s2, s3⟩ := hS'; go_simp; try rfl)
     simp only [Act.put, actP]
     refine wpHJ_take (v := ?vq6b8) 8 hFa rfl (by kernel_rfl) onlyP_put (Or.inl ⟨by rfl, ?yq6b8⟩) hS ?rq6b8
     case yq6b8 => (intro w' hS'; obtain ⟨s0, s1, s2, s3⟩ := hS'; go_simp; try rfl)
     simp only [Act.put, actP]
     refine wpHJ_only 6 (by kernel_rfl) rfl ?_
     intro K hK
     have hlk : (Instr.lookup 89 (.map (some C.mc)) (.string ⟨x.nm.toArray⟩) false).run Tryd.prog wc.drew = .ok (.bool false) wc.drew := by
      have h := run_lookS (P := Tryd.prog) (w := wc.drew) (t := 89) (kt := 9) (e := 4) (HID.out.ck.ch : MapS wc.drew C.mc (nmE _)) Tryd.underlying89 Tryd.underlying9 x.nm (.bool false) (by kernel_rfl) false
      rw [if_neg (by decide), nmE_get, HCS.out] at h
      exact h
     go_simp
     refine hK _ _ (.inr (.inr hS)) ?_
     clear hK K
     refine wpHJ_only 9 (by kernel_rfl) rfl ?_
     intro K hK
     go_simp
     (with_reducible refine (callsIn_wide.2 (need_false x.pos 6 wc.drew)).mono ?_)
     rintro e w3 ⟨rfl, hb3⟩
     exact ⟨rfl, by rw [← HST.out]; exact IsPost.bad ((HID.out.below hb3).bel HBS.out)⟩
   ·have t5 : ((x.kind : Int) == 5) = false := by first | (rw [hkd]; rfl) | (simp; omega)
    have t6 : ((x.kind : Int) == 6) = false := by first | (rw [hkd]; rfl) | (simp; omega)
    have t2 : ((x.kind : Int) == 2) = true := by first | (rw [hkd]; rfl) | (simp; omega)
    rw [if_neg (by omega), if_pos (by omega)] at HSN2
    clear hkd
    go_upto_region 13 with fail
    cases hcs : S.arrays.contains x.nm with
    | true =>
     have HCS := hid hcs
     have HST := hid (show bodyM S.chans S.arrays main (l.drop (k + 1)) lbl st = res from by rw [← HSN2.out, hcs]; rfl)
     clear hcs
     have hS : (fun W => W.cell? ⟨C.cb, 6, none⟩ = some (.map (some C.ma)) ∧ W.cell? ⟨wr.heap.size, 3, none⟩ = some (.string ⟨x.nm.toArray⟩) ∧ W.cell? ⟨wr.heap.size, 5, none⟩ = some (.int .i64 x.pos.1) ∧ W.cell? ⟨wr.heap.size, 6, none⟩ = some (.int .i64 x.pos.2)) wc.drew := ⟨HIC.out.c6, HX.out.at 3 rfl, HX.out.at 5 rfl, HX.out.at 6 rfl⟩
     have HID := hid HIC.out.drew
     have HBXD := hid (show BxL 26 wr.heap.size (inL x (.slice pa x.args.length ca)) wc.drew from HX.out)
     have hFa : ∀ f, Fence.wide.fn f := fun _ => trivial
     refine (wpIn_wide (n := 9)).1 ?_
     refine wpIn_onlyP (fun c w' => IsPost B w C vl rs S res (.panicked c) w') (fun _ _ _ h => h) ?_
     refine wpIn_region_HJ (fun W => W.cell? ⟨C.cb, 6, none⟩ = some (.map (some C.ma)) ∧ W.cell? ⟨wr.heap.size, 3, none⟩ = some (.string ⟨x.nm.toArray⟩) ∧ W.cell? ⟨wr.heap.size, 5, none⟩ = some (.int .i64 x.pos.1) ∧ W.cell? ⟨wr.heap.size, 6, none⟩ = some (.int .i64 x.pos.2)) 10 (by kernel_rfl) ?_
     simp only [List.size_toArray, List.length_cons, List.length_nil, Nat.reduceAdd]
     refine wpHJ_take (v := ?vq2a0) 0 hFa rfl (by kernel_rfl) onlyP_put (Or.inl ⟨by rfl, ?yq2a0⟩) hS ?rq2a0
     case yq2a0 => (intro w' hS'; obtain ⟨s0, s1, s2, s3⟩ := hS'; go_simp; try rfl)
     simp only [Act.put, actP]
     refine wpHJ_take (v := ?vq2a1) 1 hFa rfl (by kernel_rfl) onlyP_put (Or.inl ⟨by rfl, ?yq2a1⟩) hS ?rq2a1
     case yq2a1 => (intro w' hS'; obtain ⟨s0, s1, s2, s3⟩ := hS'; go_simp; try rfl)
     simp only [Act.put, actP]
     refine wpHJ_take (v := ?vq2a2) 2 hFa rfl (by kernel_rfl) onlyP_put (Or.inl ⟨by rfl, ?yq2a2⟩) hS ?rq2a2
     case yq2a2 => (intro w' hS'; obtain ⟨s0, s1, s2, s3⟩ := hS'; go_simp; try rfl)
     simp only [Act.put, actP]
     refine wpHJ_take (v := ?vq2a3) 3 hFa rfl (by kernel_rfl) onlyP_put (Or.inl ⟨by rfl, ?yq2a3⟩) hS ?rq2a3
     case yq2a3 => (intro w' hS'; obtain ⟨s0, s1, s2, s3⟩ := hS'; go_simp; try rfl)
     simp only [Act.put, actP]
     refine wpHJ_take (v := ?vq2a4) 4 hFa rfl (by kernel_rfl) onlyP_put (Or.inl ⟨by rfl, ?yq2a4⟩) hS ?rq2a4
     case yq2a4 => (intro w' hS'; obtain ⟨s0, s1, s2, s3⟩ := hS'; go_simp; try rfl)
     simp only [Act.put, actP]
     refine wpHJ_take (v := ?vq2a5) 5 hFa rfl (by kernel_rfl) onlyP_put (Or.inl ⟨by rfl, ?yq2a5⟩) hS ?rq2a5
     case yq2a5 => (intro w' hS'; obtain ⟨s0, s1, s2, s3⟩ := hS'; go_simp; try rfl)
     simp only [Act.put, actP]
     refine wpHJ_take (v := ?vq2a7) 7 hFa rfl (by kernel_rfl) onlyP_put (Or.inl ⟨by rfl, ?yq2a7⟩) hS ?rq2a7
     case yq2a7 => (intro w' hS'; obtain ⟨s0, s1, s2, s3⟩ := hS'; go_simp; try rfl)
     simp only [Act.put, actP]
     refine wpHJ_take (v := ?vq2a8) 8 hFa rfl (by kernel_rfl) onlyP_put (Or.inl ⟨by rfl, ?yq2a8⟩) hS ?rq2a8
     case yq2a8 => (intro w' hS'; obtain ⟨s0, s1, s2, s3⟩ := hS'; go_simp; try rfl)
     simp only [Act.put, actP]
     refine wpHJ_only 6 (by kernel_rfl) rfl ?_
     intro K hK
     have hlk : (Instr.lookup 89 (.map (some C.ma)) (.string ⟨x.nm.toArray⟩) false).run Tryd.prog wc.drew = .ok (.bool true) wc.drew := by
      have h := run_lookS (P := Tryd.prog) (w := wc.drew) (t := 89) (kt := 9) (e := 4) (HID.out.ck.ar : MapS wc.drew C.ma (nmE _)) Tryd.underlying89 Tryd.underlying9 x.nm (.bool false) (by kernel_rfl) false
      rw [if_neg (by decide), nmE_get, HCS.out] at h
      exact h
     go_simp
     refine hK _ _ (.inr (.inr hS)) ?_
     clear hK K
     refine wpHJ_only 9 (by kernel_rfl) rfl ?_
     intro K hK
     go_simp
     (with_reducible refine (callsIn_wide.2 (need_true x.pos 6 wc.drew)).mono ?_)
     rintro e w3 ⟨rfl, hb3⟩
     have HI3 := hid (HID.out.below hb3)
     have HX3 := hid (HBXD.out.bel hb3)
     have hS3 : (fun W => W.cell? ⟨C.cb, 6, none⟩ = some (.map (some C.ma)) ∧ W.cell? ⟨wr.heap.size, 3, none⟩ = some (.string ⟨x.nm.toArray⟩) ∧ W.cell? ⟨wr.heap.size, 5, none⟩ = some (.int .i64 x.pos.1) ∧ W.cell? ⟨wr.heap.size, 6, none⟩ = some (.int .i64 x.pos.2)) w3 := ⟨HI3.out.c6, HX3.out.at 3 rfl, HX3.out.at 5 rfl, HX3.out.at 6 rfl⟩
     clear hb3 hS
     refine hK _ _ (.inr (.inr hS3)) ?_
     clear hK K
     refine wpHJ_done (by kernel_rfl) ?_ _
     simp only [onlyP, Exit.then]
     clear hFa
     go_wp2_with fail
     go_roundw
     case rel => exact ⟨k + 1, _, _, HLT.out, by rw [wrap_next HLT.out HS.out.len], HST.out, HI3.out⟩
     case measure => exact meas_next HLT.out HS.out.len
    | false =>
     have HCS := hid hcs
     have HST := hid (show (.error (x.pos, 6) : Except Flt (List Bs × List Bs)) = res from by rw [← HSN2.out, hcs]; rfl)
     clear hcs
     have hS : (fun W => W.cell? ⟨C.cb, 6, none⟩ = some (.map (some C.ma)) ∧ W.cell? ⟨wr.heap.size, 3, none⟩ = some (.string ⟨x.nm.toArray⟩) ∧ W.cell? ⟨wr.heap.size, 5, none⟩ = some (.int .i64 x.pos.1) ∧ W.cell? ⟨wr.heap.size, 6, none⟩ = some (.int .i64 x.pos.2)) wc.drew := ⟨HIC.out.c6, HX.out.at 3 rfl, HX.out.at 5 rfl, HX.out.at 6 rfl⟩
     have HID := hid HIC.out.drew
     have HBXD := hid (show BxL 26 wr.heap.size (inL x (.slice pa x.args.length ca)) wc.drew from HX.out)
     have hFa : ∀ f, Fence.wide.fn f := fun _ => trivial
     refine (wpIn_wide (n := 9)).1 ?_
     refine wpIn_onlyP (fun c w' => IsPost B w C vl rs S res (.panicked c) w') (fun _ _ _ h => h) ?_
     refine wpIn_region_HJ (fun W => W.cell? ⟨C.cb, 6, none⟩ = some (.map (some C.ma)) ∧ W.cell? ⟨wr.heap.size, 3, none⟩ = some (.string ⟨x.nm.toArray⟩) ∧ W.cell? ⟨wr.heap.size, 5, none⟩ = some (.int .i64 x.pos.1) ∧ W.cell? ⟨wr.heap.size, 6, none⟩ = some (.int .i64 x.pos.2)) 10 (by kernel_rfl) ?_
     simp only [List.size_toArray, List.length_cons, List.length_nil, Nat.reduceAdd]
     refine wpHJ_take (v := ?vq2b0) 0 hFa rfl (by kernel_rfl) onlyP_put (Or.inl ⟨by rfl, ?yq2b0⟩) hS ?rq2b0
     case yq2b0 => (intro w' hS'; obtain ⟨s0, s1, s2, s3⟩ := hS'; go_simp; try rfl)
     simp only [Act.put, actP]
     refine wpHJ_take (v := ?vq2b1) 1 hFa rfl (by kernel_rfl) onlyP_put (Or.inl ⟨by rfl, ?yq2b1⟩) hS ?rq2b1
     case yq2b1 => (intro w' hS'; obtain ⟨s0, s1, s2, s3⟩ := hS'; go_simp; try rfl)
     simp only [Act.put, actP]
     refine wpHJ_take (v := ?vq2b2) 2 hFa rfl (by kernel_rfl) onlyP_put (Or.inl ⟨by rfl, ?yq2b2⟩) hS ?rq2b2
     case yq2b2 => (intro w' hS'; obtain ⟨s0, s1, s2, s3⟩ := hS'; go_simp; try rfl)
     simp only [Act.put, actP]
     refine wpHJ_take (v := ?vq2b3) 3 hFa rfl (by kernel_rfl) onlyP_put (Or.inl ⟨by rfl, ?yq2b3⟩) hS ?rq2b3
     case yq2b3 => (intro w' hS'; obtain ⟨s0, s1, s2, s3⟩ := hS'; go_simp; try rfl)
     simp only [Act.put, actP]
     refine wpHJ_take (v := ?vq2b4) 4 hFa rfl (by kernel_rfl) onlyP_put (Or.inl ⟨by rfl, ?yq2b4⟩) hS ?rq2b4
     case yq2b4 => (intro w' hS'; obtain ⟨s0, s1, s2, s3⟩ := hS'; go_simp; try rfl)
     simp only [Act.put, actP]
     refine wpHJ_take (v := ?vq2b5) 5 hFa rfl (by kernel_rfl) onlyP_put (Or.inl ⟨by rfl, ?yq2b5⟩) hS ?rq2b5
     case yq2b5 => (intro w' hS'; obtain ⟨s0, s1, s2, s3⟩ := hS'; go_simp; try rfl)
     simp only [Act.put, actP]
     refine wpHJ_take (v := ?vq2b7) 7 hFa rfl (by kernel_rfl) onlyP_put (Or.inl ⟨by rfl, ?yq2b7⟩) hS ?rq2b7
     case yq2b7 => (intro w' hS'; obtain ⟨s0, s1, s2, s3⟩ := hS'; go_simp; try rfl)
     simp only [Act.put, actP]
     refine wpHJ_take (v := ?vq2b8) 8 hFa rfl (by kernel_rfl) onlyP_put (Or.inl ⟨by rfl, ?yq2b8⟩) hS ?rq2b8
     case yq2b8 => (intro w' hS'; obtain ⟨s0, s1, s2, s3⟩ := hS'; go_simp; try rfl)
     simp only [Act.put, actP]
     refine wpHJ_only 6 (by kernel_rfl) rfl ?_
     intro K hK
     have hlk : (Instr.lookup 89 (.map (some C.ma)) (.string ⟨x.nm.toArray⟩) false).run Tryd.prog wc.drew = .ok (.bool false) wc.drew := by
      have h := run_lookS (P := Tryd.prog) (w := wc.drew) (t := 89) (kt := 9) (e := 4) (HID.out.ck.ar : MapS wc.drew C.ma (nmE _)) Tryd.underlying89 Tryd.underlying9 x.nm (.bool false) (by kernel_rfl) false
      rw [if_neg (by decide), nmE_get, HCS.out] at h
      exact h
     go_simp
     refine hK _ _ (.inr (.inr hS)) ?_
     clear hK K
     refine wpHJ_only 9 (by kernel_rfl) rfl ?_
     intro K hK
     go_simp
     (with_reducible refine (callsIn_wide.2 (need_false x.pos 6 wc.drew)).mono ?_)
     rintro e w3 ⟨rfl, hb3⟩
     exact ⟨rfl, by rw [← HST.out]; exact IsPost.bad ((HID.out.below hb3).bel HBS.out)⟩
   ·have t5 : ((x.kind : Int) == 5) = false := by first | (rw [hkd]; rfl) | (simp; omega)
    have t6 : ((x.kind : Int) == 6) = false := by first | (rw [hkd]; rfl) | (simp; omega)
    have t2 : ((x.kind : Int) == 2) = false := by first | (rw [hkd]; rfl) | (simp; omega)
    have t3 : ((x.kind : Int) == 3) = true := by first | (rw [hkd]; rfl) | (simp; omega)
    rw [if_neg (by omega), if_pos (by omega)] at HSN2
    clear hkd
    go_upto_region 13 with fail
    cases hcs : S.arrays.contains x.nm with
    | true =>
     have HCS := hid hcs
     have HST := hid (show bodyM S.chans S.arrays main (l.drop (k + 1)) lbl st = res from by rw [← HSN2.out, hcs]; rfl)
     clear hcs
     have hS : (fun W => W.cell? ⟨C.cb, 6, none⟩ = some (.map (some C.ma)) ∧ W.cell? ⟨wr.heap.size, 3, none⟩ = some (.string ⟨x.nm.toArray⟩) ∧ W.cell? ⟨wr.heap.size, 5, none⟩ = some (.int .i64 x.pos.1) ∧ W.cell? ⟨wr.heap.size, 6, none⟩ = some (.int .i64 x.pos.2)) wc.drew := ⟨HIC.out.c6, HX.out.at 3 rfl, HX.out.at 5 rfl, HX.out.at 6 rfl⟩
     have HID := hid HIC.out.drew
     have HBXD := hid (show BxL 26 wr.heap.size (inL x (.slice pa x.args.length ca)) wc.drew from HX.out)
     have hFa : ∀ f, Fence.wide.fn f := fun _ => trivial
     refine (wpIn_wide (n := 9)).1 ?_
     refine wpIn_onlyP (fun c w' => IsPost B w C vl rs S res (.panicked c) w') (fun _ _ _ h => h) ?_
     refine wpIn_region_HJ (fun W => W.cell? ⟨C.cb, 6, none⟩ = some (.map (some C.ma)) ∧ W.cell? ⟨wr.heap.size, 3, none⟩ = some (.string ⟨x.nm.toArray⟩) ∧ W.cell? ⟨wr.heap.size, 5, none⟩ = some (.int .i64 x.pos.1) ∧ W.cell? ⟨wr.heap.size, 6, none⟩ = some (.int .i64 x.pos.2)) 10 (by kernel_rfl) ?_
     simp only [List.size_toArray, List.length_cons, List.length_nil, Nat.reduceAdd]
     refine wpHJ_take (v := ?vq3a0) 0 hFa rfl (by kernel_rfl) onlyP_put (Or.inl ⟨by rfl, ?yq3a0⟩) hS ?rq3a0
     case yq3a0 => (intro w' hS'; obtain ⟨s0, s1, s2, s3⟩ := hS'; go_simp; try rfl)
     simp only [Act.put, actP]
     refine wpHJ_take (v := ?vq3a1) 1 hFa rfl (by kernel_rfl) onlyP_put (Or.inl ⟨by rfl, ?yq3a1⟩) hS ?rq3a1
     case yq3a1 => (intro w' hS'; obtain ⟨s0, s1, s2, s3⟩ := hS'; go_simp; try rfl)
     simp only [Act.put, actP]
     refine wpHJ_take (v := ?vq3a2) 2 hFa rfl (by kernel_rfl) onlyP_put (Or.inl ⟨by rfl, ?yq3a2⟩) hS ?rq3a2
     case yq3a2 => (intro w' hS'; obtain ⟨s0, s1, s2, s3⟩ := hS'; go_simp; try rfl)
     simp only [Act.put, actP]
     refine wpHJ_take (v := ?vq3a3) 3 hFa rfl (by kernel_rfl) onlyP_put (Or.inl ⟨by rfl, ?yq3a3⟩) hS ?rq3a3
     case yq3a3 => (intro w' hS'; obtain ⟨s0, s1, s2, s3⟩ := hS'; go_simp; try rfl)
     simp only [Act.put, actP]
     refine wpHJ_take (v := ?vq3a4) 4 hFa rfl (by kernel_rfl) onlyP_put (Or.inl ⟨by rfl, ?yq3a4⟩) hS ?rq3a4
     case yq3a4 => (intro w' hS'; obtain ⟨s0, s1, s2, s3⟩ := hS'; go_simp; try rfl)
     simp only [Act.put, actP]
     refine wpHJ_take (v := ?vq3a5) 5 hFa rfl (by kernel_rfl) onlyP_put (Or.inl ⟨by rfl, ?yq3a5⟩) hS ?rq3a5
     case yq3a5 => (intro w' hS'; obtain ⟨s0, s1, s2, s3⟩ := hS'; go_simp; try rfl)
     simp only [Act.put, actP]
     refine wpHJ_take (v := ?vq3a7) 7 hFa rfl (by kernel_rfl) onlyP_put (Or.inl ⟨by rfl, ?yq3a7⟩) hS ?rq3a7
     case yq3a7 => (intro w' hS'; obtain ⟨s0, s1, s2, s3⟩ := hS'; go_simp; try rfl)
     simp only [Act.put, actP]
     refine wpHJ_take (v := ?vq3a8) 8 hFa rfl (by kernel_rfl) onlyP_put (Or.inl ⟨by rfl, ?yq3a8⟩) hS ?rq3a8
     case yq3a8 => (intro w' hS'; obtain ⟨s0, s1, s2, s3⟩ := hS'; go_simp; try rfl)
     simp only [Act.put, actP]
     refine wpHJ_only 6 (by kernel_rfl) rfl ?_
     intro K hK
     have hlk : (Instr.lookup 89 (.map (some C.ma)) (.string ⟨x.nm.toArray⟩) false).run Tryd.prog wc.drew = .ok (.bool true) wc.drew := by
      have h := run_lookS (P := Tryd.prog) (w := wc.drew) (t := 89) (kt := 9) (e := 4) (HID.out.ck.ar : MapS wc.drew C.ma (nmE _)) Tryd.underlying89 Tryd.underlying9 x.nm (.bool false) (by kernel_rfl) false
      rw [if_neg (by decide), nmE_get, HCS.out] at h
      exact h
     go_simp
     refine hK _ _ (.inr (.inr hS)) ?_
     clear hK K
     refine wpHJ_only 9 (by kernel_rfl) rfl ?_
     intro K hK
     go_simp
     (with_reducible refine (callsIn_wide.2 (need_true x.pos 6 wc.drew)).mono ?_)
     rintro e w3 ⟨rfl, hb3⟩
     have HI3 := hid (HID.out.below hb3)
     have HX3 := hid (HBXD.out.bel hb3)
     have hS3 : (fun W => W.cell? ⟨C.cb, 6, none⟩ = some (.map (some C.ma)) ∧ W.cell? ⟨wr.heap.size, 3, none⟩ = some (.string ⟨x.nm.toArray⟩) ∧ W.cell? ⟨wr.heap.size, 5, none⟩ = some (.int .i64 x.pos.1) ∧ W.cell? ⟨wr.heap.size, 6, none⟩ = some (.int .i64 x.pos.2)) w3 := ⟨HI3.out.c6, HX3.out.at 3 rfl, HX3.out.at 5 rfl, HX3.out.at 6 rfl⟩
     clear hb3 hS
     refine hK _ _ (.inr (.inr hS3)) ?_
     clear hK K
     refine wpHJ_done (by kernel_rfl) ?_ _
     simp only [onlyP, Exit.then]
     clear hFa
     go_wp2_with fail
     go_roundw
     case rel => exact ⟨k + 1, _, _, HLT.out, by rw [wrap_next HLT.out HS.out.len], HST.out, HI3.out⟩
     case measure => exact meas_next HLT.out HS.out.len
    | false =>
     have HCS := hid hcs
     have HST := hid (show (.error (x.pos, 6) : Except Flt (List Bs × List Bs)) = res from by rw [← HSN2.out, hcs]; rfl)
     clear hcs
     have hS : (fun W => W.cell? ⟨C.cb, 6, none⟩ = some (.map (some C.ma)) ∧ W.cell? ⟨wr.heap.size, 3, none⟩ = some (.string ⟨x.nm.toArray⟩) ∧ W.cell? ⟨wr.heap.size, 5, none⟩ = some (.int .i64 x.pos.1) ∧ W.cell? ⟨wr.heap.size, 6, none⟩ = some (.int .i64 x.pos.2)) wc.drew := ⟨HIC.out.c6, HX.out.at 3 rfl, HX.out.at 5 rfl, HX.out.at 6 rfl⟩
     have HID := hid HIC.out.drew
     have HBXD := hid (show BxL 26 wr.heap.size (inL x (.slice pa x.args.length ca)) wc.drew from HX.out)
     have hFa : ∀ f, Fence.wide.fn f := fun _ => trivial
     refine (wpIn_wide (n := 9)).1 ?_
     refine wpIn_onlyP (fun c w' => IsPost B w C vl rs S res (.panicked c) w') (fun _ _ _ h => h) ?_
     refine wpIn_region_HJ (fun W => W.cell? ⟨C.cb, 6, none⟩ = some (.map (some C.ma)) ∧ W.cell? ⟨wr.heap.size, 3, none⟩ = some (.string ⟨x.nm.toArray⟩) ∧ W.cell? ⟨wr.heap.size, 5, none⟩ = some (.int .i64 x.pos.1) ∧ W.cell? ⟨wr.heap.size, 6, none⟩ = some (.int .i64 x.pos.2)) 10 (by kernel_rfl) ?_
     simp only [List.size_toArray, List.length_cons, List.length_nil, Nat.reduceAdd]
     refine wpHJ_take (v := ?vq3b0) 0 hFa rfl (by kernel_rfl) onlyP_put (Or.inl ⟨by rfl, ?yq3b0⟩) hS ?rq3b0
     case yq3b0 => (intro w' hS'; obtain ⟨s0, s1, s2, s3⟩ := hS'; go_simp; try rfl)
     simp only [Act.put, actP]
     refine wpHJ_take (v := ?vq3b1) 1 hFa rfl (by kernel_rfl) onlyP_put (Or.inl ⟨by rfl, ?yq3b1⟩) hS ?rq3b1
     case yq3b1 => (intro w' hS'; obtain ⟨s0, s1, s2, s3⟩ := hS'; go_simp; try rfl)
     simp only [Act.put, actP]
     refine wpHJ_take (v := ?vq3b2) 2 hFa rfl (by kernel_rfl) onlyP_put (Or.inl ⟨by rfl, ?yq3b2⟩) hS ?rq3b2
     case yq3b2 => (intro w' hS'; obtain ⟨s0, s1, s2, s3⟩ := hS'; go_simp; try rfl)
     simp only [Act.put, actP]
     refine wpHJ_take (v := ?vq3b3) 3 hFa rfl (by kernel_rfl) onlyP_put (Or.inl ⟨by rfl, ?yq3b3⟩) hS ?rq3b3
     case yq3b3 => (intro w' hS'; obtain ⟨s0, s1, s2, s3⟩ := hS'; go_simp; try rfl)
     simp only [Act.put, actP]
     refine wpHJ_take (v := ?vq3b4) 4 hFa rfl (by kernel_rfl) onlyP_put (Or.inl ⟨by rfl, ?yq3b4⟩) hS ?rq3b4
     case yq3b4 => (intro w' hS'; obtain ⟨s0, s1, s2, s3⟩ := hS'; go_simp; try rfl)
     simp only [Act.put, actP]
     refine wpHJ_take (v := ?vq3b5) 5 hFa rfl (by kernel_rfl) onlyP_put (Or.inl ⟨by rfl, ?yq3b5⟩) hS ?rq3b5
     case yq3b5 => (intro w' hS'; obtain ⟨s0, s1, s2, s3⟩ := hS'; go_simp; try rfl)
     simp only [Act.put, actP]
     refine wpHJ_take (v := ?vq3b7) 7 hFa rfl (by kernel_rfl) onlyP_put (Or.inl ⟨by rfl, ?yq3b7⟩) hS ?rq3b7
     case yq3b7 => (intro w' hS'; obtain ⟨s0, s1, s2, s3⟩ := hS'; go_simp; try rfl)
     simp only [Act.put, actP]
     refine wpHJ_take (v := ?vq3b8) 8 hFa rfl (by kernel_rfl) onlyP_put (Or.inl ⟨by rfl, ?yq3b8⟩) hS ?rq3b8
     case yq3b8 => (intro w' hS'; obtain ⟨s0, s1, s2, s3⟩ := hS'; go_simp; try rfl)
     simp only [Act.put, actP]
     refine wpHJ_only 6 (by kernel_rfl) rfl ?_
     intro K hK
     have hlk : (Instr.lookup 89 (.map (some C.ma)) (.string ⟨x.nm.toArray⟩) false).run Tryd.prog wc.drew = .ok (.bool false) wc.drew := by
      have h := run_lookS (P := Tryd.prog) (w := wc.drew) (t := 89) (kt := 9) (e := 4) (HID.out.ck.ar : MapS wc.drew C.ma (nmE _)) Tryd.underlying89 Tryd.underlying9 x.nm (.bool false) (by kernel_rfl) false
      rw [if_neg (by decide), nmE_get, HCS.out] at h
      exact h
     go_simp
     refine hK _ _ (.inr (.inr hS)) ?_
     clear hK K
     refine wpHJ_only 9 (by kernel_rfl) rfl ?_
     intro K hK
     go_simp
     (with_reducible refine (callsIn_wide.2 (need_false x.pos 6 wc.drew)).mono ?_)
     rintro e w3 ⟨rfl, hb3⟩
     exact ⟨rfl, by rw [← HST.out]; exact IsPost.bad ((HID.out.below hb3).bel HBS.out)⟩
   ·have t5 : ((x.kind : Int) == 5) = false := by first | (rw [hkd]; rfl) | (simp; omega)
    have t6 : ((x.kind : Int) == 6) = false := by first | (rw [hkd]; rfl) | (simp; omega)
    have t2 : ((x.kind : Int) == 2) = false := by first | (rw [hkd]; rfl) | (simp; omega)
    have t3 : ((x.kind : Int) == 3) = false := by first | (rw [hkd]; rfl) | (simp; omega)
    have t10 : ((x.kind : Int) == 10) = true := by first | (rw [hkd]; rfl) | (simp; omega)
    rw [if_neg (by omega), if_neg (by omega), if_pos hkd] at HSN2
    clear hkd
    have n3 : wc.cell? ⟨wr.heap.size, 3, none⟩ = some (.string ⟨x.nm.toArray⟩) := HX.out.at 3 rfl
    have n5 : wc.cell? ⟨wr.heap.size, 5, none⟩ = some (.int .i64 x.pos.1) := HX.out.at 5 rfl
    have n6 : wc.cell? ⟨wr.heap.size, 6, none⟩ = some (.int .i64 x.pos.2) := HX.out.at 6 rfl
    cases hcs : lbl.contains x.nm with
    | true =>
     have HCS := hid hcs
     have HST := hid (show (.error (x.pos, 8) : Except Flt (List Bs × List Bs)) = res from by rw [← HSN2.out, hcs]; rfl)
     clear hcs
     go_wp2_with (first
      | (at_lookup; refine wpList_lookS rfl _ _ 89 rfl 9 4 Tryd.underlying89 Tryd.underlying9 (.bool false) (fun W => by kernel_rfl) w1.heap.size (nmE lbl) x.nm rfl HIC.out.nm rfl ?_; rw [nmE_get, HCS.out])
      | (go_at_call 63; with_reducible refine (need_false x.pos 8 _).mono ?_; rintro e w9 ⟨rfl, hb9⟩; have HI9 := hid (HIC.out.below hb9); clear hb9))
     exact ⟨rfl, by rw [← HST.out]; exact IsPost.bad (HI9.out.bel HBS.out)⟩
    | false =>
     have HCS := hid hcs
     have HST := hid (show bodyM S.chans S.arrays main (l.drop (k + 1)) (lbl ++ [x.nm]) st = res from by rw [← HSN2.out, hcs]; rfl)
     have HAD := hid (show addN lbl x.nm = lbl ++ [x.nm] from by unfold addN; rw [hcs]; rfl)
     clear hcs
     go_upto_region 16 with (first
      | (at_lookup; refine wpList_lookS rfl _ _ 89 rfl 9 4 Tryd.underlying89 Tryd.underlying9 (.bool false) (fun W => by kernel_rfl) w1.heap.size (nmE lbl) x.nm rfl HIC.out.nm rfl ?_; rw [nmE_get, HCS.out])
      | (go_at_call 63; with_reducible refine (need_true x.pos 8 _).mono ?_; rintro e w9 ⟨rfl, hb9⟩; have HI9 := hid (HIC.out.below hb9); have hx9 := HX.out.bel hb9; clear hb9))
     have m3 : w9.cell? ⟨wr.heap.size, 3, none⟩ = some (.string ⟨x.nm.toArray⟩) := hx9.at 3 rfl
     go_wp2_with (at_mapUpdate; refine wpList_putS rfl _ _ _ 89 rfl 9 4 Tryd.underlying89 Tryd.underlying9 w1.heap.size (nmE lbl) x.nm (.bool true) rfl HI9.out.nm rfl rfl ?_; intro w5 hm5 hg5; rw [nmE_put] at hm5; have HI5 := hid (HI9.out.label hm5 hg5); clear hm5 hg5)
     rw [HAD.out] at HI5
     go_roundw
     case rel => exact ⟨k + 1, _, _, HLT.out, by rw [wrap_next HLT.out HS.out.len], HST.out, HI5.out⟩
     case measure => exact meas_next HLT.out HS.out.len
   ·have t5 : ((x.kind : Int) == 5) = false := by first | (rw [hkd]; rfl) | (simp; omega)
    have t6 : ((x.kind : Int) == 6) = false := by first | (rw [hkd]; rfl) | (simp; omega)
    have t2 : ((x.kind : Int) == 2) = false := by first | (rw [hkd]; rfl) | (simp; omega)
    have t3 : ((x.kind : Int) == 3) = false := by first | (rw [hkd]; rfl) | (simp; omega)
    have t10 : ((x.kind : Int) == 10) = false := by first | (rw [hkd]; rfl) | (simp; omega)
    have t7 : ((x.kind : Int) == 7) = true := by first | (rw [hkd]; rfl) | (simp; omega)
    rw [if_neg (by omega), if_neg (by omega), if_neg (by omega), if_pos hkd] at HSN2
    clear hkd
    go_upto_region 18 with fail
    cases hcs : st.contains x.nm with
    | true =>
     have HCS := hid hcs
     have HST := hid (show bodyM S.chans S.arrays main (l.drop (k + 1)) lbl (addN st x.nm) = res from by rw [← HSN2.out, hcs]; rfl)
     clear hcs
     have hS : (fun W => W.cell? ⟨C.cb, 7, none⟩ = some (.map (some C.ms)) ∧ W.cell? ⟨wr.heap.size, 3, none⟩ = some (.string ⟨x.nm.toArray⟩) ∧ W.cell? ⟨wr.heap.size, 5, none⟩ = some (.int .i64 x.pos.1) ∧ W.cell? ⟨wr.heap.size, 6, none⟩ = some (.int .i64 x.pos.2)) wc.drew := ⟨HIC.out.c7, HX.out.at 3 rfl, HX.out.at 5 rfl, HX.out.at 6 rfl⟩
     have HID := hid HIC.out.drew
     have HBXD := hid (show BxL 26 wr.heap.size (inL x (.slice pa x.args.length ca)) wc.drew from HX.out)
     have hFa : ∀ f, Fence.wide.fn f := fun _ => trivial
     refine (wpIn_wide (n := 9)).1 ?_
     refine wpIn_onlyP (fun c w' => IsPost B w C vl rs S res (.panicked c) w') (fun _ _ _ h => h) ?_
     refine wpIn_region_HJ (fun W => W.cell? ⟨C.cb, 7, none⟩ = some (.map (some C.ms)) ∧ W.cell? ⟨wr.heap.size, 3, none⟩ = some (.string ⟨x.nm.toArray⟩) ∧ W.cell? ⟨wr.heap.size, 5, none⟩ = some (.int .i64 x.pos.1) ∧ W.cell? ⟨wr.heap.size, 6, none⟩ = some (.int .i64 x.pos.2)) 18 (by kernel_rfl) ?_
     simp only [List.size_toArray, List.length_cons, List.length_nil, Nat.reduceAdd]
     refine wpHJ_take (v := ?vsa0) 0 hFa rfl (by kernel_rfl) onlyP_put (Or.inl ⟨by rfl, ?ysa0⟩) hS ?rsa0
     case ysa0 => (intro w' hS'; obtain ⟨s0, s1, s2, s3⟩ := hS'; go_simp; try rfl)
     simp only [Act.put, actP]
     refine wpHJ_take (v := ?vsa1) 1 hFa rfl (by kernel_rfl) onlyP_put (Or.inl ⟨by rfl, ?ysa1⟩) hS ?rsa1
     case ysa1 => (intro w' hS'; obtain ⟨s0, s1, s2, s3⟩ := hS'; go_simp; try rfl)
     simp only [Act.put, actP]
     refine wpHJ_take (v := ?vsa2) 2 hFa rfl (by kernel_rfl) onlyP_put (Or.inl ⟨by rfl, ?ysa2⟩) hS ?rsa2
     case ysa2 => (intro w' hS'; obtain ⟨s0, s1, s2, s3⟩ := hS'; go_simp; try rfl)
     simp only [Act.put, actP]
     refine wpHJ_take (v := ?vsa3) 3 hFa rfl (by kernel_rfl) onlyP_put (Or.inl ⟨by rfl, ?ysa3⟩) hS ?rsa3
     case ysa3 => (intro w' hS'; obtain ⟨s0, s1, s2, s3⟩ := hS'; go_simp; try rfl)
     simp only [Act.put, actP]
     refine wpHJ_take (v := ?vsa4) 4 hFa rfl (by kernel_rfl) onlyP_put (Or.inl ⟨by rfl, ?ysa4⟩) hS ?rsa4
     case ysa4 => (intro w' hS'; obtain ⟨s0, s1, s2, s3⟩ := hS'; go_simp; try rfl)
     simp only [Act.put, actP]
     refine wpHJ_take (v := ?vsa5) 5 hFa rfl (by kernel_rfl) onlyP_put (Or.inl ⟨by rfl, ?ysa5⟩) hS ?rsa5
     case ysa5 => (intro w' hS'; obtain ⟨s0, s1, s2, s3⟩ := hS'; go_simp; try rfl)
     simp only [Act.put, actP]
     refine wpHJ_take (v := ?vsa15) 15 hFa rfl (by kernel_rfl) onlyP_put (Or.inl ⟨by rfl, ?ysa15⟩) hS ?rsa15
     case ysa15 => (intro w' hS'; obtain ⟨s0, s1, s2, s3⟩ := hS'; go_simp; try rfl)
     simp only [Act.put, actP]
     refine wpHJ_take (v := ?vsa16) 16 hFa rfl (by kernel_rfl) onlyP_put (Or.inl ⟨by rfl, ?ysa16⟩) hS ?rsa16
     case ysa16 => (intro w' hS'; obtain ⟨s0, s1, s2, s3⟩ := hS'; go_simp; try rfl)
     simp only [Act.put, actP]
     refine wpHJ_only 6 (by kernel_rfl) rfl ?_
     intro K hK
     have hlk : (Instr.lookup 89 (.map (some C.ms)) (.string ⟨x.nm.toArray⟩) false).run Tryd.prog wc.drew = .ok (.bool true) wc.drew := by
      have h := run_lookS (P := Tryd.prog) (w := wc.drew) (t := 89) (kt := 9) (e := 4) (HID.out.ck.st : MapS wc.drew C.ms (nmE st)) Tryd.underlying89 Tryd.underlying9 x.nm (.bool false) (by kernel_rfl) false
      rw [if_neg (by decide), nmE_get, HCS.out] at h
      exact h
     go_simp
     refine hK _ _ (.inr (.inr hS)) ?_
     clear hK K
     refine wpHJ_take (v := ?vsa7) 7 hFa rfl (by kernel_rfl) onlyP_put (Or.inl ⟨by rfl, ?ysa7⟩) hS ?rsa7
     case ysa7 => (intro w' hS'; obtain ⟨s0, s1, s2, s3⟩ := hS'; go_simp; try rfl)
     simp only [Act.put, actP]
     refine wpHJ_take (v := undef) 8 hFa rfl (by kernel_rfl) onlyP_put (Or.inr ⟨by first | (simp [Region.wanted, yielded]; done) | (simp [Region.wanted, yielded, undef]; done), rfl⟩) hS ?rsa8
     simp only [Act.put, actP]
     refine wpHJ_take (v := undef) 9 hFa rfl (by kernel_rfl) onlyP_put (Or.inr ⟨by first | (simp [Region.wanted, yielded]; done) | (simp [Region.wanted, yielded, undef]; done), rfl⟩) hS ?rsa9
     simp only [Act.put, actP]
     refine wpHJ_take (v := undef) 10 hFa rfl (by kernel_rfl) onlyP_put (Or.inr ⟨by first | (simp [Region.wanted, yielded]; done) | (simp [Region.wanted, yielded, undef]; done), rfl⟩) hS ?rsa10
     simp only [Act.put, actP]
     refine wpHJ_take (v := undef) 11 hFa rfl (by kernel_rfl) onlyP_put (Or.inr ⟨by first | (simp [Region.wanted, yielded]; done) | (simp [Region.wanted, yielded, undef]; done), rfl⟩) hS ?rsa11
     simp only [Act.put, actP]
     refine wpHJ_only 12 (by kernel_rfl) rfl ?_
     intro K hK
     rw [if_neg (by first | (simp [Region.wanted, yielded]; done) | (simp [Region.wanted, yielded, undef]; done))]
     go_simp
     refine hK _ _ (.inr (.inr hS)) ?_
     clear hK K
     refine wpHJ_take (v := undef) 13 hFa rfl (by kernel_rfl) onlyP_put (Or.inr ⟨by first | (simp [Region.wanted, yielded]; done) | (simp [Region.wanted, yielded, undef]; done), rfl⟩) hS ?rsa13
     simp only [Act.put, actP]
     refine wpHJ_take (v := ?vsa14) 14 hFa rfl (by kernel_rfl) onlyP_put (Or.inl ⟨by rfl, ?ysa14⟩) hS ?rsa14
     case ysa14 => (intro w' hS'; obtain ⟨s0, s1, s2, s3⟩ := hS'; go_simp; try rfl)
     simp only [Act.put, actP]
     refine wpHJ_only 17 (by kernel_rfl) rfl ?_
     intro K hK
     go_simp
     (with_reducible refine (callsIn_wide.2 (need_true x.pos 5 wc.drew)).mono ?_)
     rintro e w3 ⟨rfl, hb3⟩
     have HI3 := hid (HID.out.below hb3)
     have HX3 := hid (HBXD.out.bel hb3)
     have hS3 : (fun W => W.cell? ⟨C.cb, 7, none⟩ = some (.map (some C.ms)) ∧ W.cell? ⟨wr.heap.size, 3, none⟩ = some (.string ⟨x.nm.toArray⟩) ∧ W.cell? ⟨wr.heap.size, 5, none⟩ = some (.int .i64 x.pos.1) ∧ W.cell? ⟨wr.heap.size, 6, none⟩ = some (.int .i64 x.pos.2)) w3 := ⟨HI3.out.c7, HX3.out.at 3 rfl, HX3.out.at 5 rfl, HX3.out.at 6 rfl⟩
     clear hb3 hS
     refine hK _ _ (.inr (.inr hS3)) ?_
     clear hK K
     refine wpHJ_done (by kernel_rfl) ?_ _
     simp only [onlyP, Exit.then]
     clear hFa
     go_upto_region 19 with fail
     have hS9 : (fun W => W.cell? ⟨C.cb, 7, none⟩ = some (.map (some C.ms)) ∧ W.cell? ⟨wr.heap.size, 3, none⟩ = some (.string ⟨x.nm.toArray⟩)) w3.drew := ⟨HI3.out.c7, HX3.out.at 3 rfl⟩
     obtain ⟨w5, hrun, hm5, hg5⟩ := run_putS (P := Tryd.prog) (w := w3.drew) (t := 89) (kt := 9) (e := 4) (HI3.out.drew.ck.st : MapS w3.drew C.ms (nmE st)) Tryd.underlying89 Tryd.underlying9 x.nm (.bool true)
     rw [nmE_put] at hm5
     have HI5 := hid (HI3.out.drew.site hm5 hg5)
     clear hm5 hg5
     have hFa : ∀ f, Fence.wide.fn f := fun _ => trivial
     refine (wpIn_wide (n := 9)).1 ?_
     refine wpIn_onlyN ?_
     refine wpIn_region_HJ (fun W => W.cell? ⟨C.cb, 7, none⟩ = some (.map (some C.ms)) ∧ W.cell? ⟨wr.heap.size, 3, none⟩ = some (.string ⟨x.nm.toArray⟩)) 6 (by kernel_rfl) ?_
     simp only [List.size_toArray, List.length_cons, List.length_nil, Nat.reduceAdd]
     refine wpHJ_pure (v := ?vsax0) 0 hFa rfl (by kernel_rfl) (fun _ _ _ h => h.elim) (Or.inl ⟨by rfl, ?ysax0⟩) (.inr hS9) ?rsax0
     case ysax0 => (intro w' _; go_simp; try rfl)
     simp only [Act.put, actP]
     refine wpHJ_pure (v := ?vsax1) 1 hFa rfl (by kernel_rfl) (fun _ _ _ h => h.elim) (Or.inl ⟨by rfl, ?ysax1⟩) (.inr hS9) ?rsax1
     case ysax1 => (intro w' _; go_simp; try rfl)
     simp only [Act.put, actP]
     refine wpHJ_pure (v := ?vsax2) 2 hFa rfl (by kernel_rfl) (fun _ _ _ h => h.elim) (Or.inl ⟨by rfl, ?ysax2⟩) (.inr hS9) ?rsax2
     case ysax2 => (intro w' _; go_simp; try rfl)
     simp only [Act.put, actP]
     refine wpHJ_take (v := ?vsax3) 3 hFa rfl (by kernel_rfl) (fun _ _ _ h => h.elim) (Or.inl ⟨by rfl, ?ysax3⟩) hS9 ?rsax3
     case ysax3 => (intro w' hS'; obtain ⟨s0, s1⟩ := hS'; go_simp; try rfl)
     simp only [Act.put, actP]
     refine wpHJ_pure (v := ?vsax4) 4 hFa rfl (by kernel_rfl) (fun _ _ _ h => h.elim) (Or.inl ⟨by rfl, ?ysax4⟩) (.inr hS9) ?rsax4
     case ysax4 => (intro w' _; go_simp; try rfl)
     simp only [Act.put, actP]
     refine wpHJ_take (v := ?vsax5) 5 hFa rfl (by kernel_rfl) (fun _ _ _ h => h.elim) (Or.inl ⟨by rfl, ?ysax5⟩) hS9 ?rsax5
     case ysax5 => (intro w' hS'; obtain ⟨s0, s1⟩ := hS'; go_simp; try rfl)
     simp only [Act.put, actP]
     refine wpHJ_only 6 (by kernel_rfl) rfl ?_
     intro K hK
     go_simp
     refine hK _ _ (.inl rfl) ?_
     clear hK K
     refine wpHJ_done (by kernel_rfl) ?_ _
     simp only [onlyN, Exit.then]
     clear hFa
     go_wp2_with fail
     go_roundw
     case rel => exact ⟨k + 1, _, _, HLT.out, by rw [wrap_next HLT.out HS.out.len], HST.out, HI5.out⟩
     case measure => exact meas_next HLT.out HS.out.len
    | false =>
     have HCS := hid hcs
     by_cases hln : st.length < 32
     ·have HST := hid (show bodyM S.chans S.arrays main (l.drop (k + 1)) lbl (addN st x.nm) = res from by rw [← HSN2.out, hcs, decide_eq_true hln]; rfl)
      have t32 : decide (((nmE st).length : Int) < 32) = true := by unfold nmE; rw [List.length_map]; simp; omega
      clear hcs hln
      have hS : (fun W => W.cell? ⟨C.cb, 7, none⟩ = some (.map (some C.ms)) ∧ W.cell? ⟨wr.heap.size, 3, none⟩ = some (.string ⟨x.nm.toArray⟩) ∧ W.cell? ⟨wr.heap.size, 5, none⟩ = some (.int .i64 x.pos.1) ∧ W.cell? ⟨wr.heap.size, 6, none⟩ = some (.int .i64 x.pos.2)) wc.drew := ⟨HIC.out.c7, HX.out.at 3 rfl, HX.out.at 5 rfl, HX.out.at 6 rfl⟩
      have HID := hid HIC.out.drew
      have HBXD := hid (show BxL 26 wr.heap.size (inL x (.slice pa x.args.length ca)) wc.drew from HX.out)
      have hFa : ∀ f, Fence.wide.fn f := fun _ => trivial
      refine (wpIn_wide (n := 9)).1 ?_
      refine wpIn_onlyP (fun c w' => IsPost B w C vl rs S res (.panicked c) w') (fun _ _ _ h => h) ?_
      refine wpIn_region_HJ (fun W => W.cell? ⟨C.cb, 7, none⟩ = some (.map (some C.ms)) ∧ W.cell? ⟨wr.heap.size, 3, none⟩ = some (.string ⟨x.nm.toArray⟩) ∧ W.cell? ⟨wr.heap.size, 5, none⟩ = some (.int .i64 x.pos.1) ∧ W.cell? ⟨wr.heap.size, 6, none⟩ = some (.int .i64 x.pos.2)) 18 (by kernel_rfl) ?_
      simp only [List.size_toArray, List.length_cons, List.length_nil, Nat.reduceAdd]
      refine wpHJ_take (v := ?vsb0) 0 hFa rfl (by kernel_rfl) onlyP_put (Or.inl ⟨by rfl, ?ysb0⟩) hS ?rsb0
      case ysb0 => (intro w' hS'; obtain ⟨s0, s1, s2, s3⟩ := hS'; go_simp; try rfl)
      simp only [Act.put, actP]
      refine wpHJ_take (v := ?vsb1) 1 hFa rfl (by kernel_rfl) onlyP_put (Or.inl ⟨by rfl, ?ysb1⟩) hS ?rsb1
      case ysb1 => (intro w' hS'; obtain ⟨s0, s1, s2, s3⟩ := hS'; go_simp; try rfl)
      simp only [Act.put, actP]
      refine wpHJ_take (v := ?vsb2) 2 hFa rfl (by kernel_rfl) onlyP_put (Or.inl ⟨by rfl, ?ysb2⟩) hS ?rsb2
      case ysb2 => (intro w' hS'; obtain ⟨s0, s1, s2, s3⟩ := hS'; go_simp; try rfl)
      simp only [Act.put, actP]
      refine wpHJ_take (v := ?vsb3) 3 hFa rfl (by kernel_rfl) onlyP_put (Or.inl ⟨by rfl, ?ysb3⟩) hS ?rsb3
      case ysb3 => (intro w' hS'; obtain ⟨s0, s1, s2, s3⟩ := hS'; go_simp; try rfl)
      simp only [Act.put, actP]
      refine wpHJ_take (v := ?vsb4) 4 hFa rfl (by kernel_rfl) onlyP_put (Or.inl ⟨by rfl, ?ysb4⟩) hS ?rsb4
      case ysb4 => (intro w' hS'; obtain ⟨s0, s1, s2, s3⟩ := hS'; go_simp; try rfl)
      simp only [Act.put, actP]
      refine wpHJ_take (v := ?vsb5) 5 hFa rfl (by kernel_rfl) onlyP_put (Or.inl ⟨by rfl, ?ysb5⟩) hS ?rsb5
      case ysb5 => (intro w' hS'; obtain ⟨s0, s1, s2, s3⟩ := hS'; go_simp; try rfl)
      simp only [Act.put, actP]
      refine wpHJ_take (v := ?vsb15) 15 hFa rfl (by kernel_rfl) onlyP_put (Or.inl ⟨by rfl, ?ysb15⟩) hS ?rsb15
      case ysb15 => (intro w' hS'; obtain ⟨s0, s1, s2, s3⟩ := hS'; go_simp; try rfl)
      simp only [Act.put, actP]
      refine wpHJ_take (v := ?vsb16) 16 hFa rfl (by kernel_rfl) onlyP_put (Or.inl ⟨by rfl, ?ysb16⟩) hS ?rsb16
      case ysb16 => (intro w' hS'; obtain ⟨s0, s1, s2, s3⟩ := hS'; go_simp; try rfl)
      simp only [Act.put, actP]
      refine wpHJ_only 6 (by kernel_rfl) rfl ?_
      intro K hK
      have hlk : (Instr.lookup 89 (.map (some C.ms)) (.string ⟨x.nm.toArray⟩) false).run Tryd.prog wc.drew = .ok (.bool false) wc.drew := by
       have h := run_lookS (P := Tryd.prog) (w := wc.drew) (t := 89) (kt := 9) (e := 4) (HID.out.ck.st : MapS wc.drew C.ms (nmE st)) Tryd.underlying89 Tryd.underlying9 x.nm (.bool false) (by kernel_rfl) false
       rw [if_neg (by decide), nmE_get, HCS.out] at h
       exact h
      go_simp
      refine hK _ _ (.inr (.inr hS)) ?_
      clear hK K
      refine wpHJ_take (v := ?vsb7) 7 hFa rfl (by kernel_rfl) onlyP_put (Or.inl ⟨by rfl, ?ysb7⟩) hS ?rsb7
      case ysb7 => (intro w' hS'; obtain ⟨s0, s1, s2, s3⟩ := hS'; go_simp; try rfl)
      simp only [Act.put, actP]
      refine wpHJ_take (v := ?vsb8) 8 hFa rfl (by kernel_rfl) onlyP_put (Or.inl ⟨by first | (simp [Region.wanted, yielded]; done) | (simp [Region.wanted, yielded, undef]; done), ?ysb8⟩) hS ?rsb8
      case ysb8 => (intro w' hS'; obtain ⟨s0, s1, s2, s3⟩ := hS'; go_simp; try rfl)
      simp only [Act.put, actP]
      refine wpHJ_take (v := ?vsb9) 9 hFa rfl (by kernel_rfl) onlyP_put (Or.inl ⟨by first | (simp [Region.wanted, yielded]; done) | (simp [Region.wanted, yielded, undef]; done), ?ysb9⟩) hS ?rsb9
      case ysb9 => (intro w' hS'; obtain ⟨s0, s1, s2, s3⟩ := hS'; go_simp; try rfl)
      simp only [Act.put, actP]
      refine wpHJ_take (v := ?vsb10) 10 hFa rfl (by kernel_rfl) onlyP_put (Or.inl ⟨by first | (simp [Region.wanted, yielded]; done) | (simp [Region.wanted, yielded, undef]; done), ?ysb10⟩) hS ?rsb10
      case ysb10 => (intro w' hS'; obtain ⟨s0, s1, s2, s3⟩ := hS'; go_simp; try rfl)
      simp only [Act.put, actP]
      refine wpHJ_take (v := ?vsb11) 11 hFa rfl (by kernel_rfl) onlyP_put (Or.inl ⟨by first | (simp [Region.wanted, yielded]; done) | (simp [Region.wanted, yielded, undef]; done), ?ysb11⟩) hS ?rsb11
      case ysb11 => (intro w' hS'; obtain ⟨s0, s1, s2, s3⟩ := hS'; go_simp; try rfl)
      simp only [Act.put, actP]
      refine wpHJ_only 12 (by kernel_rfl) rfl ?_
      intro K hK
      rw [if_pos (by first | (simp [Region.wanted, yielded]; done) | (simp [Region.wanted, yielded, undef]; done))]
      have hln := len_run (P := Tryd.prog) (w := wc.drew) 89 9 4 3 Tryd.underlying89 (HID.out.ck.st : MapS wc.drew C.ms (nmE st))
      go_simp
      refine hK _ _ (.inr (.inr hS)) ?_
      clear hK K
      refine wpHJ_take (v := ?vsb13) 13 hFa rfl (by kernel_rfl) onlyP_put (Or.inl ⟨by first | (simp [Region.wanted, yielded]; done) | (simp [Region.wanted, yielded, undef]; done), ?ysb13⟩) hS ?rsb13
      case ysb13 => (intro w' hS'; obtain ⟨s0, s1, s2, s3⟩ := hS'; go_simp; try rfl)
      simp only [Act.put, actP]
      refine wpHJ_take (v := ?vsb14) 14 hFa rfl (by kernel_rfl) onlyP_put (Or.inl ⟨by rfl, ?ysb14⟩) hS ?rsb14
      case ysb14 => (intro w' hS'; obtain ⟨s0, s1, s2, s3⟩ := hS'; go_simp; try rfl)
      simp only [Act.put, actP]
      refine wpHJ_only 17 (by kernel_rfl) rfl ?_
      intro K hK
      go_simp
      (with_reducible refine (callsIn_wide.2 (need_true x.pos 5 wc.drew)).mono ?_)
      rintro e w3 ⟨rfl, hb3⟩
      have HI3 := hid (HID.out.below hb3)
      have HX3 := hid (HBXD.out.bel hb3)
      have hS3 : (fun W => W.cell? ⟨C.cb, 7, none⟩ = some (.map (some C.ms)) ∧ W.cell? ⟨wr.heap.size, 3, none⟩ = some (.string ⟨x.nm.toArray⟩) ∧ W.cell? ⟨wr.heap.size, 5, none⟩ = some (.int .i64 x.pos.1) ∧ W.cell? ⟨wr.heap.size, 6, none⟩ = some (.int .i64 x.pos.2)) w3 := ⟨HI3.out.c7, HX3.out.at 3 rfl, HX3.out.at 5 rfl, HX3.out.at 6 rfl⟩
      clear hb3 hS
      refine hK _ _ (.inr (.inr hS3)) ?_
      clear hK K
      refine wpHJ_done (by kernel_rfl) ?_ _
      simp only [onlyP, Exit.then]
      clear hFa
      go_upto_region 19 with fail
      have hS9 : (fun W => W.cell? ⟨C.cb, 7, none⟩ = some (.map (some C.ms)) ∧ W.cell? ⟨wr.heap.size, 3, none⟩ = some (.string ⟨x.nm.toArray⟩)) w3.drew := ⟨HI3.out.c7, HX3.out.at 3 rfl⟩
      obtain ⟨w5, hrun, hm5, hg5⟩ := run_putS (P := Tryd.prog) (w := w3.drew) (t := 89) (kt := 9) (e := 4) (HI3.out.drew.ck.st : MapS w3.drew C.ms (nmE st)) Tryd.underlying89 Tryd.underlying9 x.nm (.bool true)
      rw [nmE_put] at hm5
      have HI5 := hid (HI3.out.drew.site hm5 hg5)
      clear hm5 hg5
      have hFa : ∀ f, Fence.wide.fn f := fun _ => trivial
      refine (wpIn_wide (n := 9)).1 ?_
      refine wpIn_onlyN ?_
      refine wpIn_region_HJ (fun W => W.cell? ⟨C.cb, 7, none⟩ = some (.map (some C.ms)) ∧ W.cell? ⟨wr.heap.size, 3, none⟩ = some (.string ⟨x.nm.toArray⟩)) 6 (by kernel_rfl) ?_
      simp only [List.size_toArray, List.length_cons, List.length_nil, Nat.reduceAdd]
      refine wpHJ_pure (v := ?vsbx0) 0 hFa rfl (by kernel_rfl) (fun _ _ _ h => h.elim) (Or.inl ⟨by rfl, ?ysbx0⟩) (.inr hS9) ?rsbx0
      case ysbx0 => (intro w' _; go_simp; try rfl)
      simp only [Act.put, actP]
      refine wpHJ_pure (v := ?vsbx1) 1 hFa rfl (by kernel_rfl) (fun _ _ _ h => h.elim) (Or.inl ⟨by rfl, ?ysbx1⟩) (.inr hS9) ?rsbx1
      case ysbx1 => (intro w' _; go_simp; try rfl)
      simp only [Act.put, actP]
      refine wpHJ_pure (v := ?vsbx2) 2 hFa rfl (by kernel_rfl) (fun _ _ _ h => h.elim) (Or.inl ⟨by rfl, ?ysbx2⟩) (.inr hS9) ?rsbx2
      case ysbx2 => (intro w' _; go_simp; try rfl)
      simp only [Act.put, actP]
      refine wpHJ_take (v := ?vsbx3) 3 hFa rfl (by kernel_rfl) (fun _ _ _ h => h.elim) (Or.inl ⟨by rfl, ?ysbx3⟩) hS9 ?rsbx3
      case ysbx3 => (intro w' hS'; obtain ⟨s0, s1⟩ := hS'; go_simp; try rfl)
      simp only [Act.put, actP]
      refine wpHJ_pure (v := ?vsbx4) 4 hFa rfl (by kernel_rfl) (fun _ _ _ h => h.elim) (Or.inl ⟨by rfl, ?ysbx4⟩) (.inr hS9) ?rsbx4
      case ysbx4 => (intro w' _; go_simp; try rfl)
      simp only [Act.put, actP]
      refine wpHJ_take (v := ?vsbx5) 5 hFa rfl (by kernel_rfl) (fun _ _ _ h => h.elim) (Or.inl ⟨by rfl, ?ysbx5⟩) hS9 ?rsbx5
      case ysbx5 => (intro w' hS'; obtain ⟨s0, s1⟩ := hS'; go_simp; try rfl)
      simp only [Act.put, actP]
      refine wpHJ_only 6 (by kernel_rfl) rfl ?_
      intro K hK
      go_simp
      refine hK _ _ (.inl rfl) ?_
      clear hK K
      refine wpHJ_done (by kernel_rfl) ?_ _
      simp only [onlyN, Exit.then]
      clear hFa
      go_wp2_with fail
      go_roundw
      case rel => exact ⟨k + 1, _, _, HLT.out, by rw [wrap_next HLT.out HS.out.len], HST.out, HI5.out⟩
      case measure => exact meas_next HLT.out HS.out.len
     ·have HST := hid (show (.error (x.pos, 5) : Except Flt (List Bs × List Bs)) = res from by rw [← HSN2.out, hcs, decide_eq_false hln]; rfl)
      have t32 : decide (((nmE st).length : Int) < 32) = false := by unfold nmE; rw [List.length_map]; simp; omega
      clear hcs hln
      have hS : (fun W => W.cell? ⟨C.cb, 7, none⟩ = some (.map (some C.ms)) ∧ W.cell? ⟨wr.heap.size, 3, none⟩ = some (.string ⟨x.nm.toArray⟩) ∧ W.cell? ⟨wr.heap.size, 5, none⟩ = some (.int .i64 x.pos.1) ∧ W.cell? ⟨wr.heap.size, 6, none⟩ = some (.int .i64 x.pos.2)) wc.drew := ⟨HIC.out.c7, HX.out.at 3 rfl, HX.out.at 5 rfl, HX.out.at 6 rfl⟩
      have HID := hid HIC.out.drew
      have HBXD := hid (show BxL 26 wr.heap.size (inL x (.slice pa x.args.length ca)) wc.drew from HX.out)
      have hFa : ∀ f, Fence.wide.fn f := fun _ => trivial
      refine (wpIn_wide (n := 9)).1 ?_
      refine wpIn_onlyP (fun c w' => IsPost B w C vl rs S res (.panicked c) w') (fun _ _ _ h => h) ?_
      refine wpIn_region_HJ (fun W => W.cell? ⟨C.cb, 7, none⟩ = some (.map (some C.ms)) ∧ W.cell? ⟨wr.heap.size, 3, none⟩ = some (.string ⟨x.nm.toArray⟩) ∧ W.cell? ⟨wr.heap.size, 5, none⟩ = some (.int .i64 x.pos.1) ∧ W.cell? ⟨wr.heap.size, 6, none⟩ = some (.int .i64 x.pos.2)) 18 (by kernel_rfl) ?_
      simp only [List.size_toArray, List.length_cons, List.length_nil, Nat.reduceAdd]
      refine wpHJ_take (v := ?vsc0) 0 hFa rfl (by kernel_rfl) onlyP_put (Or.inl ⟨by rfl, ?ysc0⟩) hS ?rsc0
      case ysc0 => (intro w' hS'; obtain ⟨s0, s1, s2, s3⟩ := hS'; go_simp; try rfl)
      simp only [Act.put, actP]
      refine wpHJ_take (v := ?vsc1) 1 hFa rfl (by kernel_rfl) onlyP_put (Or.inl ⟨by rfl, ?ysc1⟩) hS ?rsc1
      case ysc1 => (intro w' hS'; obtain ⟨s0, s1, s2, s3⟩ := hS'; go_simp; try rfl)
      simp only [Act.put, actP]
      refine wpHJ_take (v := ?vsc2) 2 hFa rfl (by kernel_rfl) onlyP_put (Or.inl ⟨by rfl, ?ysc2⟩) hS ?rsc2
      case ysc2 => (intro w' hS'; obtain ⟨s0, s1, s2, s3⟩ := hS'; go_simp; try rfl)
      simp only [Act.put, actP]
      refine wpHJ_take (v := ?vsc3) 3 hFa rfl (by kernel_rfl) onlyP_put (Or.inl ⟨by rfl, ?ysc3⟩) hS ?rsc3
      case ysc3 => (intro w' hS'; obtain ⟨s0, s1, s2, s3⟩ := hS'; go_simp; try rfl)
      simp only [Act.put, actP]
      refine wpHJ_take (v := ?vsc4) 4 hFa rfl (by kernel_rfl) onlyP_put (Or.inl ⟨by rfl, ?ysc4⟩) hS ?rsc4
      case ysc4 => (intro w' hS'; obtain ⟨s0, s1, s2, s3⟩ := hS'; go_simp; try rfl)
      simp only [Act.put, actP]
      refine wpHJ_take (v := ?vsc5) 5 hFa rfl (by kernel_rfl) onlyP_put (Or.inl ⟨by rfl, ?ysc5⟩) hS ?rsc5
      case ysc5 => (intro w' hS'; obtain ⟨s0, s1, s2, s3⟩ := hS'; go_simp; try rfl)
      simp only [Act.put, actP]
      refine wpHJ_take (v := ?vsc15) 15 hFa rfl (by kernel_rfl) onlyP_put (Or.inl ⟨by rfl, ?ysc15⟩) hS ?rsc15
      case ysc15 => (intro w' hS'; obtain ⟨s0, s1, s2, s3⟩ := hS'; go_simp; try rfl)
      simp only [Act.put, actP]
      refine wpHJ_take (v := ?vsc16) 16 hFa rfl (by kernel_rfl) onlyP_put (Or.inl ⟨by rfl, ?ysc16⟩) hS ?rsc16
      case ysc16 => (intro w' hS'; obtain ⟨s0, s1, s2, s3⟩ := hS'; go_simp; try rfl)
      simp only [Act.put, actP]
      refine wpHJ_only 6 (by kernel_rfl) rfl ?_
      intro K hK
      have hlk : (Instr.lookup 89 (.map (some C.ms)) (.string ⟨x.nm.toArray⟩) false).run Tryd.prog wc.drew = .ok (.bool false) wc.drew := by
       have h := run_lookS (P := Tryd.prog) (w := wc.drew) (t := 89) (kt := 9) (e := 4) (HID.out.ck.st : MapS wc.drew C.ms (nmE st)) Tryd.underlying89 Tryd.underlying9 x.nm (.bool false) (by kernel_rfl) false
       rw [if_neg (by decide), nmE_get, HCS.out] at h
       exact h
      go_simp
      refine hK _ _ (.inr (.inr hS)) ?_
      clear hK K
      refine wpHJ_take (v := ?vsc7) 7 hFa rfl (by kernel_rfl) onlyP_put (Or.inl ⟨by rfl, ?ysc7⟩) hS ?rsc7
      case ysc7 => (intro w' hS'; obtain ⟨s0, s1, s2, s3⟩ := hS'; go_simp; try rfl)
      simp only [Act.put, actP]
      refine wpHJ_take (v := ?vsc8) 8 hFa rfl (by kernel_rfl) onlyP_put (Or.inl ⟨by first | (simp [Region.wanted, yielded]; done) | (simp [Region.wanted, yielded, undef]; done), ?ysc8⟩) hS ?rsc8
      case ysc8 => (intro w' hS'; obtain ⟨s0, s1, s2, s3⟩ := hS'; go_simp; try rfl)
      simp only [Act.put, actP]
      refine wpHJ_take (v := ?vsc9) 9 hFa rfl (by kernel_rfl) onlyP_put (Or.inl ⟨by first | (simp [Region.wanted, yielded]; done) | (simp [Region.wanted, yielded, undef]; done), ?ysc9⟩) hS ?rsc9
      case ysc9 => (intro w' hS'; obtain ⟨s0, s1, s2, s3⟩ := hS'; go_simp; try rfl)
      simp only [Act.put, actP]
      refine wpHJ_take (v := ?vsc10) 10 hFa rfl (by kernel_rfl) onlyP_put (Or.inl ⟨by first | (simp [Region.wanted, yielded]; done) | (simp [Region.wanted, yielded, undef]; done), ?ysc10⟩) hS ?rsc10
      case ysc10 => (intro w' hS'; obtain ⟨s0, s1, s2, s3⟩ := hS'; go_simp; try rfl)
      simp only [Act.put, actP]
      refine wpHJ_take (v := ?vsc11) 11 hFa rfl (by kernel_rfl) onlyP_put (Or.inl ⟨by first | (simp [Region.wanted, yielded]; done) | (simp [Region.wanted, yielded, undef]; done), ?ysc11⟩) hS ?rsc11
      case ysc11 => (intro w' hS'; obtain ⟨s0, s1, s2, s3⟩ := hS'; go_simp; try rfl)
      simp only [Act.put, actP]
      refine wpHJ_only 12 (by kernel_rfl) rfl ?_
      intro K hK
      rw [if_pos (by first | (simp [Region.wanted, yielded]; done) | (simp [Region.wanted, yielded, undef]; done))]
      have hln := len_run (P := Tryd.prog) (w := wc.drew) 89 9 4 3 Tryd.underlying89 (HID.out.ck.st : MapS wc.drew C.ms (nmE st))
      go_simp
      refine hK _ _ (.inr (.inr hS)) ?_
      clear hK K
      refine wpHJ_take (v := ?vsc13) 13 hFa rfl (by kernel_rfl) onlyP_put (Or.inl ⟨by first | (simp [Region.wanted, yielded]; done) | (simp [Region.wanted, yielded, undef]; done), ?ysc13⟩) hS ?rsc13
      case ysc13 => (intro w' hS'; obtain ⟨s0, s1, s2, s3⟩ := hS'; go_simp; try rfl)
      simp only [Act.put, actP]
      refine wpHJ_take (v := ?vsc14) 14 hFa rfl (by kernel_rfl) onlyP_put (Or.inl ⟨by rfl, ?ysc14⟩) hS ?rsc14
      case ysc14 => (intro w' hS'; obtain ⟨s0, s1, s2, s3⟩ := hS'; go_simp; try rfl)
      simp only [Act.put, actP]
      refine wpHJ_only 17 (by kernel_rfl) rfl ?_
      intro K hK
      go_simp
      (with_reducible refine (callsIn_wide.2 (need_false x.pos 5 wc.drew)).mono ?_)
      rintro e w3 ⟨rfl, hb3⟩
      exact ⟨rfl, by rw [← HST.out]; exact IsPost.bad ((HID.out.below hb3).bel HBS.out)⟩
   ·have t5 : ((x.kind : Int) == 5) = false := by first | (rw [hkd]; rfl) | (simp; omega)
    have t6 : ((x.kind : Int) == 6) = false := by first | (rw [hkd]; rfl) | (simp; omega)
    have t2 : ((x.kind : Int) == 2) = false := by first | (rw [hkd]; rfl) | (simp; omega)
    have t3 : ((x.kind : Int) == 3) = false := by first | (rw [hkd]; rfl) | (simp; omega)
    have t10 : ((x.kind : Int) == 10) = false := by first | (rw [hkd]; rfl) | (simp; omega)
    have t7 : ((x.kind : Int) == 7) = false := by first | (rw [hkd]; rfl) | (simp; omega)
    have HST := hid (show bodyM S.chans S.arrays main (l.drop (k + 1)) lbl st = res from by rw [← HSN2.out, if_neg (by omega), if_neg (by omega), if_neg (by omega), if_neg (by omega)]; rfl)
    clear hkd
    go_wp2_with fail
    go_roundw
    case rel => exact ⟨k + 1, _, _, HLT.out, by rw [wrap_next HLT.out HS.out.len], HST.out, HIC.out⟩
    case measure => exact meas_next HLT.out HS.out.len
  ·obtain rfl : k = l.length := by omega
   have HR := hid (show (.ok (lbl, st) : Except Flt (List Bs × List Bs)) = res from by rw [← hm, List.drop_length]; rfl)
   have HI := hid hil
   clear hlt hm hil
   obtain ⟨pl, cl, hvl, _, _⟩ := HI.out.ck.lb.slcN (rfl : rs.length = rs.length)
   have hb9 : wr.cell? ⟨C.cb, 9, none⟩ = some vl := HI.out.ck.box.at 9 rfl
   have hfr : ∀ o, (wr.alloc o).frozen? ⟨C.cb, 9, none⟩ = false := fun o => (HI.out.ck.below ((Below.refl _ _).alloc (Nat.le_refl _) o)).box.fr 9
   rw [hvl] at hb9
   have HVL := hid hvl
   have HGL := hid (show GA kMap B 89 wr (.slice pl rs.length cl) rs from by rw [← hvl]; exact HI.out.ck.lb)
   have HNE := hid (show (Value.slice pl rs.length cl).ownBlock ≠ some C.cb from by rw [← hvl]; exact HI.out.ck.own)
   clear hvl
   go_wp2_with (at_builtin; refine wpList_push (K := kMap) (x := w1.heap.size) (cs := [.map (some w1.heap.size)]) (te := 89) rfl _ _ 91 rfl Tryd.underlying91 _ 8 info_nm rfl HGL.out rfl rfl rfl (by have := HRS.out; omega) (by have := HRS.out; unfold maxLen; omega) HI.out.ck.size ?_; intro v5 w5 hg5 hgr5 hmv5; obtain ⟨p5, c5, rfl, _, _⟩ := hg5.slcN (by simp : (rs ++ [w1.heap.size]).length = rs.length + 1); have HG5 := hid hg5; have HR5 := hid hgr5; have HM5 := hid hmv5; have hbx5 : BxL 93 C.cb (ckL C (.slice pl rs.length cl)) w5 := (by rw [← HVL.out]; exact HI.out.ck.box.keep (by rw [hgr5.block C.cb (by rw [World.size_alloc]; have := HI.out.ck.box.lt; omega) (fun e => HNE.out e.symm), heap_al, if_neg (by have := HI.out.ck.box.lt; omega)])); have hf9 := hbx5.fr 9; have hc9 := (hbx5.at 9 rfl : w5.cell? ⟨C.cb, 9, none⟩ = some (.slice pl rs.length cl)); clear hg5 hgr5 hmv5 hbx5)
   go_end0
   rw [← HR.out]
   have hvl := HVL.out
   obtain ⟨h1, h2⟩ := HI.out.ck.push HI.out.nm HI.out.off (by rw [hvl]; exact HR5.out) HG5.out (by rw [hvl]; exact HM5.out)
   have hbut := HI.out.but
   refine ⟨rfl, _, w1.heap.size, h1, ?_, HB1.out.size, (Moved.refl w vl).trans hbut.size (by rw [hvl]; exact HM5.out)⟩
   exact (hbut.mono fun k hk => .inr (.inl hk)).trans (h2.mono fun k hk => by
    rcases hk with hk | hk
    ·exact Or.inl hk
    ·exact Or.inr (Or.inr hk))

end Go.Proofs.YtoofbgoeipijcaaDoor
