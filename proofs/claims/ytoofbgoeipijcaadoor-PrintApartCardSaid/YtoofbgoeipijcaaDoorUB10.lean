/-
 The checker in memory.
 What a function calls; loops.
-/
import Derived.Test.YtoofbgoeipijcaaDoorUB9
import Derived.Deep.DeepCutAuto
namespace Go.Proofs.YtoofbgoeipijcaaDoor
set_option linter.unusedSimpArgs false
set_option linter.unusedVariables false
open Go.RowKit Go.Shelf

/-- Where the checker lies, and the program that it checks. -/
structure CK where
 cb : Nat
 mc : Nat
 ma : Nat
 ms : Nat
 mp : Nat
 a : Value
 b : Value
 c : Value
 d : Value
 p : Pg
/-- What it knows. -/
structure CS where
 chans : List Bs
 arrays : List Bs
 sites : List Bs
 params : List (Bs × Nat)
 labels : List (List Bs)
/-- The sets of labels in memory: the blocks rs of a slice under way. -/
def kMap : EK Nat where
 n := 1
 pos := by omega
 E _ _ cs r := cs = [.map (some r)]
 len h := by rw [h]; rfl
 one h := by subst h; intro u hu; rw [List.mem_singleton] at hu; subst hu; rfl
 keep h _ := h
abbrev ckL (K : CK) (vl : Value) : List Value := [.int .i64 K.p.width, K.a, K.b, K.c, K.d, .map (some K.mc), .map (some K.ma), .map (some K.ms), .map (some K.mp), vl]
structure Ck (B : Nat) (w : World) (K : CK) (vl : Value) (rs : List Nat) (S : CS) : Prop where
 box : BxL 93 K.cb (ckL K vl) w
 pg : PgV (· < B) w K.a K.b K.c K.d K.p
 size : B ≤ w.heap.size
 ch : NmS w K.mc S.chans
 ar : NmS w K.ma S.arrays
 st : NmS w K.ms S.sites
 pm : CtS w K.mp S.params
 lb : GA kMap B 89 w vl rs
 rl : rs.length = S.labels.length
 lm : ∀ i (h : i < S.labels.length) (h' : i < rs.length), NmS w rs[i] S.labels[i]
 ge : B ≤ K.cb ∧ B ≤ K.mc ∧ B ≤ K.ma ∧ B ≤ K.ms ∧ B ≤ K.mp
 gr : ∀ r ∈ rs, B ≤ r
 ne : K.mc ≠ K.ma ∧ K.mc ≠ K.ms ∧ K.mc ≠ K.mp ∧ K.ma ≠ K.ms ∧ K.ma ≠ K.mp ∧ K.ms ≠ K.mp
 nr : ∀ r ∈ rs, r ≠ K.mc ∧ r ≠ K.ma ∧ r ≠ K.ms ∧ r ≠ K.mp
 own : vl.ownBlock ≠ some K.cb
/-- A block that is none of the checker's. -/
def Off (B : Nat) (K : CK) (vl : Value) (rs : List Nat) (k : Nat) : Prop := B ≤ k ∧ k ≠ K.cb ∧ k ≠ K.mc ∧ k ≠ K.ma ∧ k ≠ K.ms ∧ k ≠ K.mp ∧ vl.ownBlock ≠ some k ∧ k ∉ rs
theorem MapS.not_cells {w : World} {r : Nat} {d : List Ent} (h : MapS w r d) {t : TypeId} {cs : List Value} (hc : BxL t r cs w) : False := by
 obtain ⟨es, clk, h1, _⟩ := h
 unfold BxL at hc
 rw [h1] at hc
 injection hc with hc
 cases hc
theorem GA.not_map {α : Type} {K : EK α} {B e : Nat} {w : World} {v : Value} {l : List α} (h : GA K B e w v l) {r : Nat} {d : List Ent} (hm : MapS w r d) : v.ownBlock ≠ some r := by
 obtain ⟨css, _, h2⟩ := h.row
 intro hv
 obtain ⟨_, h3⟩ := h2
 rcases h3 with ⟨rfl, _⟩ | ⟨g, cap, cur, rfl, hb, hg, _⟩
 ·cases hv
 ·cases hv
  obtain ⟨es, clk, h1, _⟩ := hm
  rw [h1] at hg
  injection hg with hg
  cases hg
theorem PgV.stay {B : Nat} {w w' : World} {a b c d : Value} {p : Pg} (h : PgV (· < B) w a b c d p) (hf : ∀ k, k < B → w'.heap[k]? = w.heap[k]?) : PgV (· < B) w' a b c d p := h.keep fun k hk => ⟨hk, hf k hk⟩
theorem GA.keepB {α : Type} {K : EK α} {B e : Nat} {w w' : World} {v : Value} {l : List α} (h : GA K B e w v l) (hs : w.heap.size ≤ w'.heap.size) (hf : ∀ k, (∀ (R : Nat → Prop), True) → k < w.heap.size → w'.heap[k]? = w.heap[k]?) : GA K B e w' v l := by
 obtain ⟨css, h1, h2⟩ := h.row
 exact ⟨⟨css, h1.keep fun k hk => ⟨⟨Nat.lt_of_lt_of_le hk.1 hs, hk.2⟩, hf k (fun _ => trivial) hk.1⟩, owns_keepG h2 fun j hj => hf j (fun _ => trivial) (h2.lt j hj).2⟩⟩
/-- A slice of maps stays what it is while its own block does. -/
theorem lb_keep {B e : Nat} {w w' : World} {v : Value} {l : List Nat} (h : GA kMap B e w v l) (hs : w.heap.size ≤ w'.heap.size) (hf : ∀ j, v.ownBlock = some j → w'.heap[j]? = w.heap[j]?) : GA kMap B e w' v l := by
 obtain ⟨css, h1, h2⟩ := h.row
 refine ⟨⟨css, ⟨h1.1, fun i hi hi' => ?_⟩, owns_keepG h2 hf⟩⟩
 exact h1.2 i hi hi'
theorem Ck.but {B : Nat} {w w' : World} {K : CK} {vl : Value} {rs : List Nat} {S : CS} {F : Nat → Prop} (h : Ck B w K vl rs S) (hb : But F w w') (hF : ∀ k, F k → Off B K vl rs k) : Ck B w' K vl rs S := by
 have hn : ∀ k, k < w.heap.size → ¬ Off B K vl rs k → w'.heap[k]? = w.heap[k]? := fun k hk hA => hb.block k hk fun hf => hA (hF k hf)
 refine ⟨h.box.keep (hn _ h.box.lt fun a => a.2.1 rfl), h.pg.stay fun k hk => hn k (Nat.lt_of_lt_of_le hk h.size) (fun a => by have := a.1; omega), Nat.le_trans h.size hb.size,
  h.ch.keep (hn _ h.ch.lt fun a => a.2.2.1 rfl), h.ar.keep (hn _ h.ar.lt fun a => a.2.2.2.1 rfl), h.st.keep (hn _ h.st.lt fun a => a.2.2.2.2.1 rfl), h.pm.keep (hn _ h.pm.lt fun a => a.2.2.2.2.2.1 rfl),
  lb_keep h.lb hb.size (fun j hj => hn j (h.lb.lt j hj).2 fun a => a.2.2.2.2.2.2.1 hj), h.rl, fun i hi hi' => (h.lm i hi hi').keep (hn _ (h.lm i hi hi').lt fun a => a.2.2.2.2.2.2.2 (List.getElem_mem hi')), h.ge, h.gr, h.ne, h.nr, h.own⟩
theorem Ck.below {B : Nat} {w w' : World} {K : CK} {vl : Value} {rs : List Nat} {S : CS} (h : Ck B w K vl rs S) (hb : Below w.heap.size w w') : Ck B w' K vl rs S := h.but (But.of_below (fun _ => False) hb) fun _ h => h.elim
/-- A new block is none of the checker's. -/
theorem Ck.apart {B : Nat} {w : World} {K : CK} {vl : Value} {rs : List Nat} {S : CS} (h : Ck B w K vl rs S) {k : Nat} (hk : w.heap.size ≤ k) : Off B K vl rs k := by
 have h1 := h.box.lt; have h2 := h.ch.lt; have h3 := h.ar.lt; have h4 := h.st.lt; have h5 := h.pm.lt; have h6 := h.size
 refine ⟨by omega, by omega, by omega, by omega, by omega, by omega, fun e => by have := (h.lb.lt k e).2; omega, fun hm => ?_⟩
 obtain ⟨i, hi, rfl⟩ := List.getElem_of_mem hm
 have := (h.lm i (by rw [← h.rl]; exact hi) hi).lt
 omega
/-- One of the maps has turned. -/
theorem Ck.setCh {B : Nat} {w w' : World} {K : CK} {vl : Value} {rs : List Nat} {S : CS} (h : Ck B w K vl rs S) (hb : But (fun k => k = K.mc) w w') {l : List Bs} (hm : NmS w' K.mc l) : Ck B w' K vl rs { S with chans := l } := by
 have hn : ∀ k, k < w.heap.size → k ≠ K.mc → w'.heap[k]? = w.heap[k]? := fun k hk hne => hb.block k hk hne
 have hbx : K.cb ≠ K.mc := fun e => MapS.not_cells h.ch (e ▸ h.box)
 have hge := h.ge
 have hne := h.ne
 refine ⟨h.box.keep (hn _ h.box.lt hbx), h.pg.stay fun k hk => hn k (Nat.lt_of_lt_of_le hk h.size) (by omega), Nat.le_trans h.size hb.size, hm, h.ar.keep (hn _ h.ar.lt (Ne.symm hne.1)), h.st.keep (hn _ h.st.lt (Ne.symm hne.2.1)), h.pm.keep (hn _ h.pm.lt (Ne.symm hne.2.2.1)),
  lb_keep h.lb hb.size (fun j hj => hn j (h.lb.lt j hj).2 fun e => h.lb.not_map h.ch (e ▸ hj)), h.rl, fun i hi hi' => (h.lm i hi hi').keep (hn _ (h.lm i hi hi').lt (h.nr _ (List.getElem_mem hi')).1), h.ge, h.gr, h.ne, h.nr, h.own⟩
theorem Ck.setAr {B : Nat} {w w' : World} {K : CK} {vl : Value} {rs : List Nat} {S : CS} (h : Ck B w K vl rs S) (hb : But (fun k => k = K.ma) w w') {l : List Bs} (hm : NmS w' K.ma l) : Ck B w' K vl rs { S with arrays := l } := by
 have hn : ∀ k, k < w.heap.size → k ≠ K.ma → w'.heap[k]? = w.heap[k]? := fun k hk hne => hb.block k hk hne
 have hbx : K.cb ≠ K.ma := fun e => MapS.not_cells h.ar (e ▸ h.box)
 have hge := h.ge
 have hne := h.ne
 refine ⟨h.box.keep (hn _ h.box.lt hbx), h.pg.stay fun k hk => hn k (Nat.lt_of_lt_of_le hk h.size) (by omega), Nat.le_trans h.size hb.size, h.ch.keep (hn _ h.ch.lt hne.1), hm, h.st.keep (hn _ h.st.lt (Ne.symm hne.2.2.2.1)), h.pm.keep (hn _ h.pm.lt (Ne.symm hne.2.2.2.2.1)),
  lb_keep h.lb hb.size (fun j hj => hn j (h.lb.lt j hj).2 fun e => h.lb.not_map h.ar (e ▸ hj)), h.rl, fun i hi hi' => (h.lm i hi hi').keep (hn _ (h.lm i hi hi').lt (h.nr _ (List.getElem_mem hi')).2.1), h.ge, h.gr, h.ne, h.nr, h.own⟩
theorem Ck.setSt {B : Nat} {w w' : World} {K : CK} {vl : Value} {rs : List Nat} {S : CS} (h : Ck B w K vl rs S) (hb : But (fun k => k = K.ms) w w') {l : List Bs} (hm : NmS w' K.ms l) : Ck B w' K vl rs { S with sites := l } := by
 have hn : ∀ k, k < w.heap.size → k ≠ K.ms → w'.heap[k]? = w.heap[k]? := fun k hk hne => hb.block k hk hne
 have hbx : K.cb ≠ K.ms := fun e => MapS.not_cells h.st (e ▸ h.box)
 have hge := h.ge
 have hne := h.ne
 refine ⟨h.box.keep (hn _ h.box.lt hbx), h.pg.stay fun k hk => hn k (Nat.lt_of_lt_of_le hk h.size) (by omega), Nat.le_trans h.size hb.size, h.ch.keep (hn _ h.ch.lt hne.2.1), h.ar.keep (hn _ h.ar.lt hne.2.2.2.1), hm, h.pm.keep (hn _ h.pm.lt (Ne.symm hne.2.2.2.2.2)),
  lb_keep h.lb hb.size (fun j hj => hn j (h.lb.lt j hj).2 fun e => h.lb.not_map h.st (e ▸ hj)), h.rl, fun i hi hi' => (h.lm i hi hi').keep (hn _ (h.lm i hi hi').lt (h.nr _ (List.getElem_mem hi')).2.2.1), h.ge, h.gr, h.ne, h.nr, h.own⟩
theorem Ck.setPm {B : Nat} {w w' : World} {K : CK} {vl : Value} {rs : List Nat} {S : CS} (h : Ck B w K vl rs S) (hb : But (fun k => k = K.mp) w w') {l : List (Bs × Nat)} (hm : CtS w' K.mp l) : Ck B w' K vl rs { S with params := l } := by
 have hn : ∀ k, k < w.heap.size → k ≠ K.mp → w'.heap[k]? = w.heap[k]? := fun k hk hne => hb.block k hk hne
 have hbx : K.cb ≠ K.mp := fun e => MapS.not_cells h.pm (e ▸ h.box)
 have hge := h.ge
 have hne := h.ne
 refine ⟨h.box.keep (hn _ h.box.lt hbx), h.pg.stay fun k hk => hn k (Nat.lt_of_lt_of_le hk h.size) (by omega), Nat.le_trans h.size hb.size, h.ch.keep (hn _ h.ch.lt hne.2.2.1), h.ar.keep (hn _ h.ar.lt hne.2.2.2.2.1), h.st.keep (hn _ h.st.lt hne.2.2.2.2.2), hm,
  lb_keep h.lb hb.size (fun j hj => hn j (h.lb.lt j hj).2 fun e => h.lb.not_map h.pm (e ▸ hj)), h.rl, fun i hi hi' => (h.lm i hi hi').keep (hn _ (h.lm i hi hi').lt (h.nr _ (List.getElem_mem hi')).2.2.2), h.ge, h.gr, h.ne, h.nr, h.own⟩
/-- A set of labels is kept. -/
theorem Ck.push {B : Nat} {w w5 : World} {K : CK} {vl v5 : Value} {rs : List Nat} {S : CS} {r : Nat} {l : List Bs} {o : Obj} (h : Ck B w K vl rs S) (hr : NmS w r l) (ho : Off B K vl rs r) (hg : (w.alloc o).grownBy w5 vl.ownBlock) (h5 : GA kMap B 89 w5 v5 (rs ++ [r])) (hm : Moved w vl v5) :
  Ck B (w5.setCell ⟨K.cb, 9, none⟩ v5) K v5 (rs ++ [r]) { S with labels := S.labels ++ [l] } ∧ But (fun k => k = K.cb ∨ vl.ownBlock = some k) w (w5.setCell ⟨K.cb, 9, none⟩ v5) := by
 have hb5 : ∀ k, k < w.heap.size → vl.ownBlock ≠ some k → w5.heap[k]? = w.heap[k]? := fun k hk hne => by
  rw [hg.block k (by rw [World.size_alloc]; omega) (fun e => hne e.symm), heap_al, if_neg (by omega)]
 have hb : ∀ k, k < w.heap.size → vl.ownBlock ≠ some k → k ≠ K.cb → (w5.setCell ⟨K.cb, 9, none⟩ v5).heap[k]? = w.heap[k]? := fun k hk hne hc => by
  rw [heap_ot hc, hb5 k hk hne]
 have hs5 := hg.size
 rw [World.size_alloc] at hs5
 have hs : w.heap.size ≤ (w5.setCell ⟨K.cb, 9, none⟩ v5).heap.size := by simp [World.setCell]; omega
 have hnm : ∀ {q : Nat} {d : List Ent}, MapS w q d → (w5.setCell ⟨K.cb, 9, none⟩ v5).heap[q]? = w.heap[q]? := fun {q d} hq =>
  hb q hq.lt (h.lb.not_map hq) fun e => MapS.not_cells hq (e ▸ h.box)
 have hown : v5.ownBlock ≠ some K.cb := fun e => by
  rcases hm with e' | ⟨k, e', hk⟩
  ·exact h.own (e'.symm.trans e)
  ·rw [e'] at e; injection e with e; have := h.box.lt; omega
 refine ⟨⟨?_, ?_, Nat.le_trans h.size hs, h.ch.keep (hnm h.ch), h.ar.keep (hnm h.ar), h.st.keep (hnm h.st), h.pm.keep (hnm h.pm), ?_, ?_, ?_, h.ge, ?_, h.ne, ?_, hown⟩, ⟨hg.os, hg.tape, hg.output, hs, fun k hk hF => hb k hk (fun e => hF (.inr e)) fun e => hF (.inl e)⟩⟩
 ·have h1 : BxL 93 K.cb (ckL K vl) w5 := h.box.keep (hb5 _ h.box.lt h.own)
  exact h1.set 9 v5
 ·refine h.pg.stay fun k hk => ?_
  have hge := h.ge
  refine hb k (Nat.lt_of_lt_of_le hk h.size) (fun e => ?_) (by omega)
  have := (h.lb.lt k e).1; omega
 ·exact lb_keep h5 (by simp [World.setCell]) fun j hj => heap_ot (fun e => hown (by rw [← e]; exact hj)) _
 ·rw [List.length_append, List.length_append, h.rl]; rfl
 ·intro i hi hi'
  by_cases hlt : i < S.labels.length
  ·rw [List.getElem_append_left (by rw [h.rl]; exact hlt), List.getElem_append_left hlt]
   exact (h.lm i hlt (by rw [h.rl]; exact hlt)).keep (hnm (h.lm i hlt (by rw [h.rl]; exact hlt)))
  ·have : i = S.labels.length := by simp at hi; omega
   subst this
   rw [List.getElem_append_right (by rw [h.rl]; omega), List.getElem_append_right (by omega)]
   simp only [h.rl, Nat.sub_self, List.getElem_cons_zero]
   exact hr.keep (hnm hr)
 ·intro q hq
  rcases List.mem_append.1 hq with hq | hq
  ·exact h.gr q hq
  ·rw [List.mem_singleton.1 hq]; exact ho.1
 ·intro q hq
  rcases List.mem_append.1 hq with hq | hq
  ·exact h.nr q hq
  ·rw [List.mem_singleton.1 hq]; exact ⟨ho.2.2.1, ho.2.2.2.1, ho.2.2.2.2.1, ho.2.2.2.2.2.1⟩

end Go.Proofs.YtoofbgoeipijcaaDoor

namespace Go.Proofs.YtoofbgoeipijcaaDoor
set_option linter.unusedSimpArgs false
set_option linter.unusedVariables false
open Go.RowKit Go.Shelf
attribute [local go_sem] Oper.semAt_some

theorem info_strG : (Tryd.prog.info? 9).map (fun i => (i.zero, i.size, i.bytes)) = some (some (.string ⟨#[]⟩), kStr.n, 16) := by kernel_rfl
theorem calls_snoc (l : List In) (k : Nat) (hk : k < l.length) : callsM (l.take (k + 1)) = callsM (l.take k) ++ if l[k].kind = 4 then [l[k].nm] else [] := by
 unfold callsM
 rw [List.take_succ_eq_append_getElem hk, List.filter_append, List.map_append]
 congr 1
 by_cases h : l[k].kind = 4
 ·simp [h]
 ·simp [h]
theorem calls_len (l : List In) : (callsM l).length ≤ l.length := by
 unfold callsM; rw [List.length_map]; exact List.length_filter_le _ _

set_option maxRecDepth 100000 in
set_option maxHeartbeats 2000000 in
theorem calls_any (l : List In) (v : Value) (w : World) (h : SlG kIn (· < w.heap.size) w v l) (hl : l.length ≤ 100000) :
  Calls Tryd.prog 87 #[v] w fun e w' => ∃ v', e = .returned v' ∧ GA kStr w.heap.size 9 w' v' (callsM l) ∧ Below w.heap.size w w' := by
 obtain ⟨p, c, rfl⟩ := h.slc
 have HS := hid h; have HL := hid hl
 clear h hl
 go_enter Tryd.func87, Tryd.ntmps87
 go_wp2
 go_loopw [3, 8] (fun ov iv wr => ∃ k : Nat, k ≤ l.length ∧ iv = .int .i64 (k : Int) ∧ GA kStr w.heap.size 9 wr ov (callsM (l.take k)) ∧ Below w.heap.size w wr) (fun _ iv _ => l.length - (intOf iv).toNat)
 case atStart => exact ⟨0, Nat.zero_le _, rfl, GA.nil _ _ _ _, Below.refl _ _⟩
 case round =>
  obtain ⟨k, hk, rfl, hga, hbr⟩ := hrel
  obtain ⟨po, co, rfl⟩ := hga.slc
  by_cases hlt : k < l.length
  ·obtain ⟨b, off, rfl, hR, hcells⟩ := in_at HS.out (by omega : 0 < l.length)
   obtain ⟨pa, ca, hsa, c0, c1, c2, c3, c4, c5, c6⟩ := hcells k hlt
   have d0 := (hbr.cell (p := ⟨b, off + k * 7, none⟩) hR).trans c0
   have d1 := (hbr.cell (p := ⟨b, off + k * 7 + 1, none⟩) hR).trans c1
   have d2 := (hbr.cell (p := ⟨b, off + k * 7 + 2, none⟩) hR).trans c2
   have d3 := (hbr.cell (p := ⟨b, off + k * 7 + 3, none⟩) hR).trans c3
   have d4 := (hbr.cell (p := ⟨b, off + k * 7 + 4, none⟩) hR).trans c4
   have d5 := (hbr.cell (p := ⟨b, off + k * 7 + 5, none⟩) hR).trans c5
   have d6 := (hbr.cell (p := ⟨b, off + k * 7 + 6, none⟩) hR).trans c6
   have HSN := hid (calls_snoc l k hlt)
   have HCL := hid (show (callsM (l.take k)).length ≤ 100000 from by have h1 := calls_len (l.take k); have h2 := HL.out; rw [List.length_take] at h1; omega)
   have HLT := hid hlt; have HBR := hid hbr; have HGA := hid hga
   clear hcells hsa c0 c1 c2 c3 c4 c5 c6 hR hbr hga
   generalize l[k] = x at *
   go_upto_if 14 with fail
   obtain ⟨wo, hwo⟩ : ∃ W, wr.alloc (.cells #[.int .u8 (x.kind : Int), .int .u8 (x.op : Int), .string ⟨x.dst.toArray⟩, .string ⟨x.nm.toArray⟩, .slice pa x.args.length ca, .int .i64 x.pos.1, .int .i64 x.pos.2] 26) = W := ⟨_, rfl⟩
   have hbo : Below wr.heap.size wr wo := by rw [← hwo]; exact (Below.refl _ _).alloc (Nat.le_refl _) _
   have hbx : BxL 26 wr.heap.size (inL x (.slice pa x.args.length ca)) wo := by rw [← hwo]; exact BxL.new _ _ _
   rw [hwo]
   have n3 : wo.cell? ⟨wr.heap.size, 3, none⟩ = some (.string ⟨x.nm.toArray⟩) := hbx.at 3 rfl
   have HBO := hid (HBR.out.trans (hbo.mono HBR.out.size))
   have HGO := hid (HGA.out.keep hbo)
   clear hwo hbo hbx d0 d1 d2 d3 d4 d5 d6 hlt
   by_cases h4 : x.kind = 4
   ·have t4 : ((x.kind : Int) == 4) = true := by rw [h4]; rfl
    have HSN4 := hid (HSN.out.trans (by rw [if_pos h4]))
    clear h4
    go_wp2_with (at_builtin; refine wpList_push (K := kStr) (x := x.nm) (cs := [.string ⟨x.nm.toArray⟩]) (te := 9) rfl _ _ 35 rfl Tryd.underlying35 _ 16 info_strG rfl HGO.out rfl rfl rfl (by have := HCL.out; omega) (by have := HCL.out; unfold maxLen; omega) HBO.out.size ?_; intro v5 w5 hg5 hgr5 hm5; have HG5 := hid hg5; have HB5 := hid (below_push HGO.out HBO.out hgr5 HBO.out.size); clear hg5 hgr5 hm5)
    go_roundw
    case rel => exact ⟨k + 1, HLT.out, by rw [wrap_next HLT.out HS.out.len], by rw [HSN4.out]; exact HG5.out, HB5.out⟩
    case measure => exact meas_next HLT.out HS.out.len
   ·have t4 : ((x.kind : Int) == 4) = false := by simp; omega
    have HSN4 := hid (HSN.out.trans (by rw [if_neg h4, List.append_nil]))
    clear h4
    go_wp2_with fail
    go_roundw
    case rel => exact ⟨k + 1, HLT.out, by rw [wrap_next HLT.out HS.out.len], by rw [HSN4.out]; exact HGO.out, HBO.out⟩
    case measure => exact meas_next HLT.out HS.out.len
  ·obtain rfl : k = l.length := by omega
   have HBR := hid hbr; have HGA := hid hga
   clear hlt hbr hga
   go_wp2_with fail
   go_ret
   have hga := HGA.out
   rw [List.take_length] at hga
   refine ⟨_, rfl, ?_, HBR.out⟩
   simpa using hga

end Go.Proofs.YtoofbgoeipijcaaDoor
