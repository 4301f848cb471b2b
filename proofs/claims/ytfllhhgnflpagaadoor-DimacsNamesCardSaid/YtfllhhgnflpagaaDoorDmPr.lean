/-
  The reference's Parse.
-/
import Derived.Test.YtfllhhgnflpagaaDoorDmZ
import Derived.Test.YtfllhhgnflpagaaDoorDmLr
import Derived.Test.YtfllhhgnflpagaaDoorDmX
namespace Go.Proofs.YtfllhhgnflpagaaDoor
set_option linter.unusedSimpArgs false
set_option linter.unusedVariables false
open Go.RowKit Go.Shelf
attribute [local go_sem] Oper.semAt_some

theorem fldF_lenN (N : Nat) : ∀ (s cur : Bs) (acc : List Bs), cur.length + s.length ≤ N → (∀ y ∈ acc, y.length ≤ N) → ∀ y ∈ fldF s cur acc, y.length ≤ N
  | [], cur, acc, h, ha, y, hy => by
    unfold fldF flushB at hy
    split at hy
    · exact ha y hy
    · rcases List.mem_append.1 hy with hy | hy
      · exact ha y hy
      · rw [List.mem_singleton.1 hy]; simp at h; omega
  | b :: t, cur, acc, h, ha, y, hy => by
    rw [fldF] at hy
    split at hy
    · refine fldF_lenN N t [] _ (by simp at h ⊢; omega) (fun z hz => ?_) y hy
      unfold flushB at hz
      split at hz
      · exact ha z hz
      · rcases List.mem_append.1 hz with hz | hz
        · exact ha z hz
        · rw [List.mem_singleton.1 hz]; simp at h; omega
    · exact fldF_lenN N t _ _ (by simp at h ⊢; omega) ha y hy
theorem cutNL_lens : ∀ s : Bs, (cutNL s).1.length ≤ s.length ∧ (cutNL s).2.length ≤ s.length
  | [] => by simp [cutNL]
  | c :: r => by
    have := cutNL_lens r
    unfold cutNL
    split
    · simp
    · simp; omega
theorem linesM_mem (s : Bs) : ∀ x ∈ linesM s, x.length ≤ s.length := by
  induction s using linesM.induct with
  | case1 => rw [linesM_nil]; intro x hx; cases hx
  | case2 s h ih =>
    rw [linesM_cons h]
    intro x hx
    have hl := cutNL_lens s
    rcases List.mem_cons.1 hx with rfl | hx
    · exact hl.1
    · exact Nat.le_trans (ih x hx) hl.2
theorem fields_lenN {s : Bs} {ls : List (List Bs)} (hls : (linesM s).map fields = ls) (hs : s.length ≤ 65536) : ∀ x ∈ ls, ∀ y ∈ x, y.length ≤ 65536 := by
  subst hls
  intro x hx y hy
  obtain ⟨l, hl, rfl⟩ := List.mem_map.1 hx
  have := linesM_mem s l hl
  exact fldF_lenN 65536 l [] [] (by simp; omega) (fun z hz => by cases hz) y hy
/-- What the reference's Parse holds between two words. -/
structure RI (w wl : World) (st : PS) (W : World) (cv cc : Value) : Prop where
  b0 : W.heap[w.heap.size]? = some (.cells #[.int .i64 0, .slice none 0 0] 24 (0, 0))
  b1 : W.heap[w.heap.size + 1]? = some (.cells #[.int .i64 st.vars, cv] 24 (0, 0))
  oth : ∀ k, k < wl.heap.size → k ≠ w.heap.size + 1 → W.heap[k]? = wl.heap[k]?
  sz : wl.heap.size ≤ W.heap.size
  os : W.os = wl.os
  tape : W.tape = wl.tape
  output : W.output = wl.output
  inv : PInv st
  acc : CAcc wl.heap.size (fun _ => False) W cv cc st.cls st.c
theorem RI.old {w wl W : World} {st : PS} {cv cc : Value} (h : RI w wl st W cv cc) (hb : Below w.heap.size w wl) : Below w.heap.size w W :=
  ⟨h.os.trans hb.os, h.tape.trans hb.tape, h.output.trans hb.output, Nat.le_trans hb.size h.sz, fun k hk => (h.oth k (Nat.lt_of_lt_of_le hk hb.size) (by omega)).trans (hb.block k hk)⟩
theorem RI.grown {w wl W W' : World} {st : PS} {cv cc : Value} {o : Obj} {row : Option Nat} (h : RI w wl st W cv cc) (hw : w.heap.size + 2 ≤ wl.heap.size) (hg : (W.alloc o).grownBy W' row) (hr : ∀ k, row = some k → wl.heap.size ≤ k) {st' : PS} {cv' cc' : Value} (hi : PInv st') (hv : st'.vars = st.vars) (ha : CAcc wl.heap.size (fun _ => False) W' cv' cc' st'.cls st'.c)
    (hc : cv' = cv) : RI w wl st' W' cv' cc' := by
  subst hc
  have hk : ∀ k, k < wl.heap.size → W'.heap[k]? = W.heap[k]? := fun k hk => (hg.block k (by rw [World.size_alloc]; have := h.sz; omega) (fun e => by have := hr k e.symm; omega)).trans (Below.heap_alloc _ _ _ (by have := h.sz; omega))
  refine ⟨(hk _ (by omega)).trans h.b0, ?_, fun k hk1 hk2 => (hk k hk1).trans (h.oth k hk1 hk2), by have := hg.size; rw [World.size_alloc] at this; have := h.sz; omega, hg.os.trans h.os, hg.tape.trans h.tape, hg.output.trans h.output, hi, ha⟩
  rw [hv]; exact (hk _ (by omega)).trans h.b1
theorem CAcc.setLow {B : Nat} {W : World} {cv cc : Value} {cls : List (List Int)} {c : List Int} (h : CAcc B (fun _ => False) W cv cc cls c) {b i : Nat} (hb : b < B) (v : Value) : CAcc B (fun _ => False) (W.setCell ⟨b, i, none⟩ v) cv cc cls c :=
  h.keep (by simp) (fun k hk _ _ => heap_oth (by omega) v) (fun k hk => .inl hk)
theorem RI.set {w wl W : World} {st' : PS} {cv cv0 cc : Value} {u : Value} (i : Nat) (v : Value) (hw : w.heap.size + 2 ≤ wl.heap.size) (hb0 : W.heap[w.heap.size]? = some (.cells #[.int .i64 0, .slice none 0 0] 24 (0, 0)))
    (hb1 : W.heap[w.heap.size + 1]? = some (.cells #[u, cv0] 24 (0, 0))) (hset : (#[u, cv0] : Array Value).setIfInBounds i v = #[.int .i64 st'.vars, cv])
    (oth : ∀ k, k < wl.heap.size → k ≠ w.heap.size + 1 → W.heap[k]? = wl.heap[k]?) (sz : wl.heap.size ≤ W.heap.size) (os : W.os = wl.os) (tape : W.tape = wl.tape) (output : W.output = wl.output) (inv : PInv st') (acc : CAcc wl.heap.size (fun _ => False) W cv cc st'.cls st'.c) :
    RI w wl st' (W.setCell ⟨w.heap.size + 1, i, none⟩ v) cv cc := by
  refine ⟨(heap_oth (by omega) v).trans hb0, ?_, fun k h1 h2 => (heap_oth h2 v).trans (oth k h1 h2), by simpa using sz, os, tape, output, inv, acc.setLow (by omega) v⟩
  rw [heap_set hb1, hset]
theorem rp_err {s : Bs} {w W : World} {n er : Int} (hP : parseM s = ((0, []), n, er)) (hb : Below w.heap.size w W) {e : Ending} (he : e = .returned (.tuple #[.agg #[.int .i64 0, .slice none 0 0], .int .i64 n, .int .i64 er])) : ParsePost s w e W :=
  ⟨.slice none 0 0, by rw [hP]; exact he, by rw [hP]; exact ⟨[], Sl.nil, rfl, fun i h => absurd h (by simp)⟩, hb⟩
theorem box_two {W : World} {b : Nat} {u0 u1 : Value} {t : TypeId} (h : W.heap[b]? = some (.cells #[u0, u1] t (0, 0))) (v0 v1 : Value) :
    ((W.setCell ⟨b, 0, none⟩ v0).setCell ⟨b, 1, none⟩ v1).cell? ⟨b, 0, none⟩ = some v0 ∧ ((W.setCell ⟨b, 0, none⟩ v0).setCell ⟨b, 1, none⟩ v1).cell? ⟨b, 1, none⟩ = some v1 := by
  have := heap_set (heap_set h v0 (i := 0)) v1 (i := 1)
  obtain ⟨h0, h1, _⟩ := cell_lit2 (W := (W.setCell ⟨b, 0, none⟩ v0).setCell ⟨b, 1, none⟩ v1) (k := b) (v := v0) (u := v1) (t := t) this
  exact ⟨h0, h1⟩
/-- Where the reading of the lines stands. -/
structure LnI (ls : List (List Bs)) (i : Nat) (st : PS) (hd : Bool) (CL : Int) : Prop where
  run : runF (i + 1) st hd (ls.drop i) = runF 1 ps0 true ls
  hd1 : hd = true → st.left < 0
  hd0 : hd = false → 0 ≤ st.left ∧ CL = st.left + (st.cls.length : Int)
theorem drop_cons {α : Type} (l : List α) (i : Nat) (h : i < l.length) : l.drop i = l[i] :: l.drop (i + 1) := List.drop_eq_getElem_cons h
theorem LnI.skip {ls : List (List Bs)} {i : Nat} {st : PS} {hd : Bool} {CL : Int} (h : LnI ls i st hd CL) (hi : i < ls.length) (hs : skp ls[i] = true) : LnI ls (i + 1) st hd CL := by
  refine ⟨?_, h.hd1, h.hd0⟩
  rw [← h.run, drop_cons ls i hi, runF_skip hs]
theorem LnI.head {ls : List (List Bs)} {i : Nat} {st : PS} {CL a b : Int} (h : LnI ls i st true CL) (hi : i < ls.length) (hs : skp ls[i] = false) (hh : headM ls[i] = (a, b, 0)) (hc : st.cls = []) (hb : 0 ≤ b) : LnI ls (i + 1) { st with vars := a, left := b } false b := by
  refine ⟨?_, (fun e => by cases e), fun _ => ⟨hb, (by show b = b + ((st.cls.length : Nat) : Int); rw [hc]; simp)⟩⟩
  rw [← h.run, drop_cons ls i hi, runF_head hs, step_head (h.hd1 rfl) hh]
theorem LnI.headE {ls : List (List Bs)} {i : Nat} {st : PS} {CL a b c : Int} (h : LnI ls i st true CL) (hi : i < ls.length) (hs : skp ls[i] = false) (hh : headM ls[i] = (a, b, c)) (hc : c ≠ 0) : runF 1 ps0 true ls = .error (i + 1, c) := by
  rw [← h.run, drop_cons ls i hi, runF_head hs, step_headE (h.hd1 rfl) hh hc]
theorem LnI.words {ls : List (List Bs)} {i : Nat} {st : PS} {CL : Int} (h : LnI ls i st false CL) (hi : i < ls.length) (hs : skp ls[i] = false) : (match stepW st ls[i] with | .error e => .error (i + 1, e) | .ok st' => runF (i + 1 + 1) st' false (ls.drop (i + 1))) = runF 1 ps0 true ls := by
  rw [← h.run, drop_cons ls i hi, runF_words hs]
  cases stepW st ls[i] <;> rfl
theorem parse_of_err {s : Bs} {ls : List (List Bs)} (hs : s.length ≤ 65536) (hls : (linesM s).map fields = ls) {n : Nat} {e : Int} (h : runF 1 ps0 true ls = .error (n, e)) : parseM s = ((0, []), (n : Int), e) := by
  rw [parseM_F (by omega), lr_lines, hls]
  unfold parseF
  rw [h]
theorem parse_of_ok {s : Bs} {ls : List (List Bs)} (hs : s.length ≤ 65536) (hls : (linesM s).map fields = ls) {st : PS} {hd : Bool} (h : runF 1 ps0 true ls = .ok (st, hd)) : parseM s = if st.left ≠ 0 then ((0, []), (ls.length : Int) + 1, 4) else ((st.vars, st.cls), 0, 0) := by
  rw [parseM_F (by omega), lr_lines, hls]
  unfold parseF
  rw [h]
/-- Where the reading of a line stands. -/
structure WdI (x : List Bs) (j : Nat) (st0 st : PS) (CL : Int) : Prop where
  run : stepW st (x.drop j) = stepW st0 x
  left : 0 ≤ st.left ∧ CL = st.left + (st.cls.length : Int)
theorem WdI.one {x : List Bs} {j : Nat} {st0 st : PS} {CL : Int} (h : WdI x j st0 st CL) (hj : j < x.length) : (match stepP st [x[j]] with | .error e => .error e | .ok st' => stepW st' (x.drop (j + 1))) = stepW st0 x := by
  rw [← h.run, drop_cons x j hj, stepW_cons]
  cases stepP st [x[j]] <;> rfl

theorem RI.rd {w w2 wl W : World} {st : PS} {cv cc : Value} (h : RI w wl st W cv cc) (hs : w2.heap.size = w.heap.size + 2) {k i : Nat} (hk : w2.heap.size ≤ k ∧ k < wl.heap.size) {v : Value} (hc : wl.cell? ⟨k, i, none⟩ = some v) : W.cell? ⟨k, i, none⟩ = some v :=
  (World.cell?_of_block (a := ⟨k, i, none⟩) (h.oth k hk.2 (by omega))).trans hc
theorem stepR {st : PS} {y : Bs} (hok : okDig y = true) (hl : 0 < st.left) (h0 : 0 ≤ st.vars) (h1 : st.vars ≤ 1048576) : stepP st [y] = if st.vars < numR y ∨ numR y < -st.vars then .error 3 else if numR y = 0 then .ok { st with cls := st.cls ++ [st.c], c := [], left := st.left - 1 } else if st.c.length = 4096 then .error 5 else .ok { st with c := st.c ++ [numR y] } := by
  obtain ⟨v, hv, hs, _⟩ := numR_some hok
  unfold SameNum at hs
  by_cases hr : st.vars < numR y ∨ numR y < -st.vars
  · rw [if_pos hr]; exact step_rng hl hv (by omega)
  · have e : v = numR y := by omega
    rw [if_neg hr]
    subst e
    by_cases hz : numR y = 0
    · rw [if_pos hz]; exact step_zero hl (by rw [hv, hz]) h0
    · rw [if_neg hz]
      by_cases hc : st.c.length = 4096
      · rw [if_pos hc]; exact step_full hl hv hr hz hc
      · rw [if_neg hc]; exact step_push hl hv hr hz hc
theorem numR_bd (y : Bs) : -1099511627776 ≤ numR y ∧ numR y ≤ 1099511627776 := by
  unfold numR
  have := capR_bd (natOf (digitsOf y))
  split
  · split <;> omega
  · omega
theorem stepR2 {st : PS} {y : Bs} {V r : Int} {C : Nat} (hok : okDig y = true) (hl : 0 < st.left) (hV : st.vars = V) (hC : st.c.length = C) (hr : numR y = r) (h0 : 0 ≤ V) (h1 : V ≤ 1048576) : stepP st [y] = if V < r ∨ r < -V then .error 3 else if r = 0 then .ok { st with cls := st.cls ++ [st.c], c := [], left := st.left - 1 } else if C = 4096 then .error 5 else .ok { st with c := st.c ++ [r] } := by
  subst hV hC hr; exact stepR hok hl h0 h1
theorem stepR_no {st : PS} {y : Bs} (hok : okDig y = false) (hl : 0 ≤ st.left) : stepP st [y] = .error 4 := step_none hl (numR_none hok)
theorem RI.blocks {w wl W W' : World} {st : PS} {cv cc : Value} {o : Obj} {row : Option Nat} (h : RI w wl st W cv cc) (hw : w.heap.size + 2 ≤ wl.heap.size) (hg : (W.alloc o).grownBy W' row) (hr : ∀ k, row = some k → wl.heap.size ≤ k) : ∀ k, k < wl.heap.size → W'.heap[k]? = W.heap[k]? :=
  fun k hk => (hg.block k (by rw [World.size_alloc]; have := h.sz; omega) (fun e => by have := hr k e.symm; omega)).trans (Below.heap_alloc _ _ _ (by have := h.sz; omega))
theorem RI.line {w wl W W' : World} {st : PS} {cv cv' cc : Value} {o : Obj} (h : RI w wl st W cv cc) (hw : w.heap.size + 2 ≤ wl.heap.size) (hg : (W.alloc o).grownBy W' cv.ownBlock) {us : List Value} (hus : W.ownsRow wl.heap.size 34 1 cv st.cls.length us)
    (ho : W'.ownsRow wl.heap.size 34 1 cv' (st.cls.length + 1) (us ++ [cc])) (hv : cv'.ownBlock = cv.ownBlock ∨ cv'.ownBlock = some (W.alloc o).heap.size) (hi : PInv { st with cls := st.cls ++ [st.c], c := [], left := st.left - 1 }) :
    RI w wl { st with cls := st.cls ++ [st.c], c := [], left := st.left - 1 } (W'.setCell ⟨w.heap.size + 1, 1, none⟩ cv') cv' (.slice none 0 0) := by
  have hk := h.blocks hw hg (fun k hk => (hus.lt k hk).1)
  have ha := h.acc.line (fun k hk => hk.elim) (by have := h.inv.c; omega) hg hus ho hv
  exact RI.set (st' := { st with cls := st.cls ++ [st.c], c := [], left := st.left - 1 }) 1 cv' hw ((hk _ (by omega)).trans h.b0) ((hk _ (by omega)).trans h.b1) rfl (fun k h1 h2 => (hk k h1).trans (h.oth k h1 h2)) (by have := hg.size; rw [World.size_alloc] at this; have := h.sz; omega) (hg.os.trans h.os) (hg.tape.trans h.tape) (hg.output.trans h.output) hi ha
theorem RI.b1g {w wl W W' : World} {st : PS} {cv cc : Value} {o : Obj} {row : Option Nat} (h : RI w wl st W cv cc) (hw : w.heap.size + 2 ≤ wl.heap.size) (hg : (W.alloc o).grownBy W' row) (hr : ∀ k, row = some k → wl.heap.size ≤ k) :
    W'.cell? ⟨w.heap.size + 1, 0, none⟩ = some (.int .i64 st.vars) ∧ W'.cell? ⟨w.heap.size + 1, 1, none⟩ = some cv ∧ W'.frozen? ⟨w.heap.size + 1, 0, none⟩ = false ∧ W'.frozen? ⟨w.heap.size + 1, 1, none⟩ = false :=
  cell_lit2 (((h.blocks hw hg hr) _ (by omega)).trans h.b1)
theorem RI.push {w wl W W' : World} {st : PS} {cv cc cc' : Value} {o : Obj} {x : Int} (h : RI w wl st W cv cc) (hw : w.heap.size + 2 ≤ wl.heap.size) (hg : (W.alloc o).grownBy W' cc.ownBlock) (ho : W'.ownsRow wl.heap.size 3 1 cc' (st.c.length + 1) (st.c.map (Value.int .i64) ++ [.int .i64 x]))
    (hv : cc'.ownBlock = cc.ownBlock ∨ cc'.ownBlock = some (W.alloc o).heap.size) (hi : PInv { st with c := st.c ++ [x] }) : RI w wl { st with c := st.c ++ [x] } W' cv cc' :=
  h.grown hw hg (fun k hk => (h.acc.row.lt k hk).1) hi rfl (h.acc.push (fun k hk => hk.elim) hg ho hv) rfl
/-- The cells of the two boxes. -/
theorem RI.cells {w wl W : World} {st : PS} {cv cc : Value} (h : RI w wl st W cv cc) :
    (W.cell? ⟨w.heap.size + 1, 0, none⟩ = some (.int .i64 st.vars) ∧ W.cell? ⟨w.heap.size + 1, 1, none⟩ = some cv ∧ W.frozen? ⟨w.heap.size + 1, 0, none⟩ = false ∧ W.frozen? ⟨w.heap.size + 1, 1, none⟩ = false) ∧
    (W.cell? ⟨w.heap.size, 0, none⟩ = some (.int .i64 0) ∧ W.cell? ⟨w.heap.size, 1, none⟩ = some (.slice none 0 0) ∧ W.frozen? ⟨w.heap.size, 0, none⟩ = false ∧ W.frozen? ⟨w.heap.size, 1, none⟩ = false) := ⟨cell_lit2 h.b1, cell_lit2 h.b0⟩
set_option maxRecDepth 100000 in
set_option maxHeartbeats 1000000 in
theorem rparse_long (s : Bs) (w : World) (h : 65536 < s.length) : Calls Tryd.prog 16 #[.string ⟨s.toArray⟩] w (ParsePost s w) := by
  have HP := hid (show parseM s = ((0, []), 0, 5) from by unfold parseM; rw [if_pos h])
  have hd : decide (65536 < (s.length : Int)) = true := by simp; omega
  clear h
  go_enter Tryd.func16, Tryd.ntmps16
  go_wp2
  refine bodyPost_ret (v := .tuple #[.agg #[.int .i64 0, .slice none 0 0], .int .i64 0, .int .i64 5]) (by simp [results, Tryd.results16, go_sem]) rfl ?_
  exact rp_err HP.out ((Below.refl _ _).alloc (Nat.le_refl _) _) rfl
set_option maxRecDepth 100000 in
set_option maxHeartbeats 4000000 in
theorem rparse_short (s : Bs) (w : World) (hs : s.length ≤ 65536) : Calls Tryd.prog 16 #[.string ⟨s.toArray⟩] w (ParsePost s w) := by
  have hd : decide (65536 < (s.length : Int)) = false := by simp; omega
  obtain ⟨ls, hls⟩ : ∃ ls, (linesM s).map fields = ls := ⟨_, rfl⟩
  have hml : ∀ x ∈ ls, ∀ y ∈ x, y.length ≤ 65536 := fields_lenN hls hs
  have hlen : ls.length ≤ 65536 := by rw [← hls, List.length_map]; exact Nat.le_trans (linesM_len s) hs
  have HCALL := hid (fun W => rlines_any s W hs)
  unfold RLinesPost SLL Sl at HCALL
  rw [hls] at HCALL
  have HLS := hid hls; have HS := hid hs; have HML := hid hml
  obtain ⟨w2, hw2⟩ : ∃ x, (w.alloc (.cells #[.int .i64 0, .slice none 0 0] 24)).alloc (.cells #[.int .i64 0, .slice none 0 0] 24) = x := ⟨_, rfl⟩
  have hb2 : Below w.heap.size w w2 := by rw [← hw2]; exact ((Below.refl _ _).alloc (Nat.le_refl _) _).alloc (by simp) _
  have hs2 : w2.heap.size = w.heap.size + 2 := by rw [← hw2]; simp
  have h20 : w2.heap[w.heap.size]? = some (.cells #[.int .i64 0, .slice none 0 0] 24 (0, 0)) := by rw [← hw2, heap_al, if_neg (by simp), heap_al, if_pos rfl]
  have h21 : w2.heap[w.heap.size + 1]? = some (.cells #[.int .i64 0, .slice none 0 0] 24 (0, 0)) := by rw [← hw2, heap_al, if_pos (by simp)]
  have HB2 := hid hb2; have HS2 := hid hs2; have H20 := hid h20; have H21 := hid h21; have HW2 := hid hw2
  clear hls hs hml hb2 hs2 h20 h21 hw2
  go_enter Tryd.func16, Tryd.ntmps16
  go_wp2_with (first
    | (go_at_call 30; rw [HW2.out]; refine (HCALL.out _).mono ?_; rintro e wl ⟨cl, rfl, hsl, hbl⟩; obtain ⟨vs, ⟨pl, kl, e1, h1, h2, h3, hr⟩, hvl, hx⟩ := hsl; obtain ⟨NL, hNL⟩ : ∃ n, vs.length = n := ⟨_, rfl⟩; rw [hNL] at e1 h1 h3; subst e1; have HR := hid hr; have HX := hid hx; have HVL := hid hvl; have HNL := hid hNL; have HBL := hid hbl; have HKL := hid (And.intro h1 (And.intro h2 h3)); clear hr hx hvl hNL hbl h1 h2 h3))
  have HWL := hid (show w.heap.size + 2 ≤ wl.heap.size from by have := HBL.out.size; have := HS2.out; omega)
  have hwl := HWL.out
  have HLN := hid (show NL = ls.length from by have := HVL.out; have := HNL.out; omega)
  have hNLb : NL ≤ 65536 := by have := HLN.out; omega
  have hri : RI w wl ps0 wl (.slice none 0 0) (.slice none 0 0) := by
    refine ⟨(HBL.out.block _ (by have := HS2.out; omega)).trans H20.out, (HBL.out.block _ (by have := HS2.out; omega)).trans H21.out, fun _ _ _ => rfl, Nat.le_refl _, rfl, rfl, rfl, PInv.start, CAcc.nil _ _ _⟩
  have hln : LnI ls 0 ps0 true 0 := ⟨rfl, (fun _ => by decide), (fun e => by cases e)⟩
  have HRI := hid hri; have HLI := hid hln
  have HBW := hid (show Below w.heap.size w wl from HB2.out.trans (HBL.out.mono HB2.out.size))
  clear hri hln
  go_loopw [6, 7, 8, 10] (fun cc bg clv iv wr => ∃ (i : Nat) (hd : Bool) (CL : Int) (st : PS) (cv : Value), i ≤ NL ∧ iv = .int .i64 (i : Int) ∧ bg = .bool (!hd) ∧ clv = .int .i64 CL ∧ RI w wl st wr cv cc ∧ LnI ls i st hd CL) (fun _ _ _ iv _ => NL - (intOf iv).toNat)
  case atStart => exact ⟨0, true, 0, ps0, _, Nat.zero_le _, rfl, rfl, rfl, HRI.out, HLI.out⟩
  case round =>
    obtain ⟨i, hd, CL, st, cv, hi, rfl, rfl, rfl, hri, hln⟩ := hrel
    obtain ⟨wo, rfl⟩ : ∃ wo : World, wo = wr := ⟨_, rfl⟩
    obtain ⟨pc, kc, rfl⟩ := own_sliceG hri.acc.row
    obtain ⟨cvs, hcvs, hcl, hcx⟩ := hri.acc.lines
    obtain ⟨pv, kv, rfl⟩ := own_sliceG hcvs
    clear hcvs hcl hcx
    obtain ⟨N0, hN0⟩ : ∃ N0, st.cls.length = N0 := ⟨_, rfl⟩
    obtain ⟨C0, hC0⟩ : ∃ C0, st.c.length = C0 := ⟨_, rfl⟩
    rw [hN0, hC0] at hri
    rw [hC0]
    obtain ⟨⟨c10, c11, f10, f11⟩, ⟨c00, c01, f00, f01⟩⟩ := hri.cells
    have HRI := hid hri; have HLN2 := hid hln; have HN0 := hid hN0; have HC0 := hid hC0
    clear hri hln hN0 hC0
    by_cases hlt : i < NL
    · have g1 : decide ((i : Int) < (NL : Int)) = true := by simp; omega
      have hil : i < ls.length := by have := HLN.out; omega
      have hiv : i < vs.length := by have := HNL.out; omega
      obtain ⟨bk, off, rfl, hR1, hcell⟩ := HR.out.at i hiv
      obtain ⟨x, hx⟩ : ∃ x, ls[i] = x := ⟨_, rfl⟩
      have hstr := HX.out i hil hiv
      have hmlx := HML.out _ (List.getElem_mem hil)
      have hcw := hcell i hiv
      have HSK := hid (show skp x = true → LnI ls (i + 1) st hd CL from fun hs => HLN2.out.skip hil (by rw [hx]; exact hs))
      have HHD := hid (show ∀ a b, hd = true → skp x = false → headM x = (a, b, 0) → st.cls = [] → 0 ≤ b → LnI ls (i + 1) { st with vars := a, left := b } false b from fun a b h1 h2 h3 h4 h5 => (h1 ▸ HLN2.out).head hil (by rw [hx]; exact h2) (by rw [hx]; exact h3) h4 h5)
      have HHE := hid (show ∀ a b c, hd = true → skp x = false → headM x = (a, b, c) → c ≠ 0 → runF 1 ps0 true ls = .error (i + 1, c) from fun a b c h1 h2 h3 h4 => (h1 ▸ HLN2.out).headE hil (by rw [hx]; exact h2) (by rw [hx]; exact h3) h4)
      have HWD := hid (show hd = false → skp x = false → (match stepW st x with | .error e => .error (i + 1, e) | .ok st' => runF (i + 1 + 1) st' false (ls.drop (i + 1))) = runF 1 ps0 true ls from fun h1 h2 => by
        have := (h1 ▸ HLN2.out : LnI ls i st false CL).words hil (by rw [hx]; exact h2)
        rw [hx] at this; exact this)
      rw [hx] at hstr hmlx
      obtain ⟨px, kx, hvx, hx1, hx2, hx3, hrx⟩ := hstr.op
      obtain ⟨NX, hNX⟩ : ∃ n, x.length = n := ⟨_, rfl⟩
      rw [hvx] at hstr
      rw [hvx, hNX] at hcw
      rw [hNX] at hx3 hstr
      have hck := HRI.out.rd HS2.out hR1 hcw
      have HCK := hid (And.intro hR1 hcw)
      have HSTR := hid (show Strs (· < wo.heap.size) wo (.slice px NX kx) x from hstr.keep fun k hk => ⟨Nat.lt_of_lt_of_le hk.2 HRI.out.sz, HRI.out.oth k hk.2 (by have := HS2.out; have := hk.1; omega)⟩)
      have HMX := hid hmlx; have HRX := hid hrx; have HNX := hid hNX
      clear hcell hR1 hmlx hstr hrx hvx hx1 hx2 hil hiv hx hNX hcw
      cases x with
      | nil =>
        obtain rfl : NX = 0 := HNX.out.symm
        go_wp2_with fail
        go_roundw
        case rel => exact ⟨i + 1, hd, CL, st, _, by omega, by go_num, rfl, rfl, HRI.out, HSK.out rfl⟩
        case measure => (simp [intOf] <;> omega)
      | cons x0 xr =>
        have hNXp : 0 < NX := by rw [← HNX.out]; simp
        have q1 : ((NX : Int) == 0) = false := by rw [beq_eq_false_iff_ne]; omega
        obtain ⟨bx, ox, rfl, hRx, hcx⟩ := HRX.out.atS 0 (by simp)
        have hc0 : wo.cell? ⟨bx, ox, none⟩ = some (.string ⟨x0.toArray⟩) := HRI.out.rd HS2.out hRx (hcx 0 (by simp))
        have HCX := hid (And.intro hRx hcx)
        clear hRx hcx
        by_cases hx0 : x0 = [99]
        · have q2 : (x0 == [99]) = true := by simp [hx0]
          have HSK2 := hid (HSK.out (by rw [hx0]; rfl))
          clear hx0
          go_wp2_with fail
          go_roundw
          case rel => exact ⟨i + 1, hd, CL, st, _, by omega, by go_num, rfl, rfl, HRI.out, HSK2.out⟩
          case measure => (simp [intOf] <;> omega)
        have q2 : (x0 == [99]) = false := by simp [hx0]
        have HNS := hid (show skp (x0 :: xr) = false from by
          cases h : skp (x0 :: xr) with
          | false => rfl
          | true => rcases (skp_iff _).1 h with h | h
                    · cases h
                    · simp at h; exact absurd h hx0)
        clear hx0
        cases hd with
        | true =>
          obtain ⟨a, b, c, hh⟩ : ∃ a b c, headM (x0 :: xr) = (a, b, c) := ⟨_, _, _, rfl⟩
          have HH := hid hh
          have hcall := rheader_any (x0 :: xr) _ wo HSTR.out HMX.out
          unfold RHeadPost at hcall
          rw [hh] at hcall
          have HCALLH := hid hcall
          clear hh hcall
          by_cases hc : c = 0
          · subst hc
            go_wp2_with (go_at_call 31; with_reducible refine HCALLH.out.mono ?_; rintro e w4 ⟨rfl, rfl⟩)
            go_roundw
            case rel =>
              have hb0 := headM_bounds (by rw [HH.out])
              rw [HH.out] at hb0
              have hneg := HLN2.out.hd1 rfl
              have hst := step_head hneg HH.out
              have hinv := HRI.out.inv.step hst
              have hcls := (HRI.out.inv.neg hneg).1
              have hbp : 0 ≤ b := stepP_left hst
              exact ⟨i + 1, false, b, { st with vars := a, left := b }, _, by omega, by go_num, rfl, rfl, RI.set 0 (.int .i64 a) HWL.out HRI.out.b0 HRI.out.b1 rfl HRI.out.oth HRI.out.sz HRI.out.os HRI.out.tape HRI.out.output hinv HRI.out.acc, HHD.out a b (by simp) HNS.out HH.out hcls hbp⟩
            case measure => (simp [intOf] <;> omega)
          · have q3 : (c != 0) = true := by simp [hc]
            have HERR := hid (HHE.out a b c (by simp) HNS.out HH.out hc)
            clear hc
            go_wp2_with (go_at_call 31; with_reducible refine HCALLH.out.mono ?_; rintro e w4 ⟨rfl, rfl⟩)
            obtain ⟨d0, d1⟩ := box_two HRI.out.b0 (.int .i64 0) (.slice none 0 0)
            refine bodyPost_ret (v := .tuple #[.agg #[.int .i64 0, .slice none 0 0], .int .i64 ((i : Int) + 1), .int .i64 c]) (by simp [results, Tryd.results16, go_sem, d0, d1]) rfl ?_
            exact rp_err (parse_of_err HS.out HLS.out HERR.out) (((HRI.out.old HBW.out).setCell (p := ⟨w.heap.size, 0, none⟩) (Nat.le_refl _) _).setCell (p := ⟨w.heap.size, 1, none⟩) (Nat.le_refl _) _) rfl
        | false =>
          simp only [Bool.not_false]
          have HWD2 := hid (HWD.out (by simp) HNS.out)
          clear HWD HHD HHE HSK
          go_wp2_with fail
          go_loopw [6, 14] (fun cc2 jv wr' => ∃ (j : Nat) (st2 : PS) (cv2 : Value), j ≤ NX ∧ jv = .int .i64 (j : Int) ∧ RI w wl st2 wr' cv2 cc2 ∧ WdI (x0 :: xr) j st st2 CL) (fun _ jv _ => NX - (intOf jv).toNat)
          case atStart => exact ⟨0, st, _, Nat.zero_le _, rfl, HRI.out, ⟨rfl, HLN2.out.hd0 (by simp)⟩⟩
          case round =>
            obtain ⟨j, st2, cv2, hj, rfl, hri2, hwd⟩ := hrel
            obtain ⟨wi, rfl⟩ : ∃ wi : World, wi = wr := ⟨_, rfl⟩
            clear c10 c11 f10 f11 c00 c01 f00 f01 hck hc0
            obtain ⟨pc2, kc2, rfl⟩ := own_sliceG hri2.acc.row
            obtain ⟨us, hus, _, _⟩ := hri2.acc.lines
            obtain ⟨pv2, kv2, rfl⟩ := own_sliceG hus
            obtain ⟨N1, hN1⟩ : ∃ N, st2.cls.length = N := ⟨_, rfl⟩
            obtain ⟨C1, hC1⟩ : ∃ C, st2.c.length = C := ⟨_, rfl⟩
            obtain ⟨V, hV⟩ : ∃ V, st2.vars = V := ⟨_, rfl⟩
            rw [hN1] at hri2 hus
            rw [hC1] at hri2 ⊢
            obtain ⟨⟨c10, c11, f10, f11⟩, ⟨c00, c01, f00, f01⟩⟩ := hri2.cells
            rw [hV] at c10
            have hv0 : 0 ≤ V := by rw [← hV]; exact hri2.inv.v0
            have hv1 : V ≤ 1048576 := by rw [← hV]; exact hri2.inv.v1
            have hcb : C1 ≤ 4096 := by rw [← hC1]; exact hri2.inv.c
            obtain ⟨hl1, hl2⟩ := hwd.left
            have hnb : (N1 : Int) ≤ 1048576 := by have := hri2.inv.cls; rw [hN1, if_neg (by omega)] at this; omega
            rw [hN1] at hl2
            have hck2 := hri2.rd HS2.out HCK.out.1 HCK.out.2
            have HRI2 := hid hri2; have HWI := hid hwd; have HUS := hid hus; have HN1 := hid hN1; have HC1 := hid hC1; have HV := hid hV
            have hszi := hri2.sz
            clear hri2 hwd hus hN1 hC1 hV
            by_cases hjl : j < NX
            · have g2 : decide ((j : Int) < (NX : Int)) = true := by simp; omega
              have hjx : j < (x0 :: xr).length := by rw [HNX.out]; exact hjl
              have hcy := HRI2.out.rd HS2.out HCX.out.1 (HCX.out.2 j hjx)
              have hone := HWI.out.one hjx
              have hyl := HMX.out _ (List.getElem_mem hjx)
              obtain ⟨y, hy⟩ : ∃ y, (x0 :: xr)[j] = y := ⟨_, rfl⟩
              have HNXT := hid (show ∀ st3, stepP st2 [y] = .ok st3 → stepW st3 ((x0 :: xr).drop (j + 1)) = stepW st (x0 :: xr) from fun st3 h => by rw [hy, h] at hone; exact hone)
              have HER := hid (show ∀ er, stepP st2 [y] = .error er → runF 1 ps0 true ls = .error (i + 1, er) from fun er h => by
                rw [hy, h] at hone
                have h2 := HWD2.out
                rw [← hone] at h2
                exact h2.symm)
              rw [hy] at hcy hyl
              obtain ⟨oo, hoo⟩ : ∃ oo, okDig y = oo := ⟨_, rfl⟩
              obtain ⟨r, hr⟩ : ∃ r, numR y = r := ⟨_, rfl⟩
              have HNUM := hid (rnum_is hoo hr wi hyl)
              have HOO := hid hoo; have HRR := hid hr
              have hrb : -1099511627776 ≤ r ∧ r ≤ 1099511627776 := by rw [← hr]; exact numR_bd y
              obtain ⟨hrb1, hrb2⟩ := hrb
              clear hone hyl hy hoo hr hjx
              by_cases hz : st2.left = 0
              · have q4 : ((N1 : Int) == CL) = true := by rw [beq_iff_eq]; omega
                have HERR := hid (HER.out 4 (step_left hz))
                go_wp2_with (go_at_call 32; (with_reducible refine HNUM.out.mono ?_); rintro e w4 ⟨rfl, rfl⟩)
                obtain ⟨d0, d1⟩ := box_two HRI2.out.b0 (.int .i64 0) (.slice none 0 0)
                refine bodyPost_ret (v := .tuple #[.agg #[.int .i64 0, .slice none 0 0], .int .i64 ((i : Int) + 1), .int .i64 4]) (by simp [results, Tryd.results16, go_sem, d0, d1]) rfl ?_
                exact rp_err (parse_of_err HS.out HLS.out HERR.out) (((HRI2.out.old HBW.out).setCell (p := ⟨w.heap.size, 0, none⟩) (Nat.le_refl _) _).setCell (p := ⟨w.heap.size, 1, none⟩) (Nat.le_refl _) _) rfl
              have q4 : ((N1 : Int) == CL) = false := by rw [beq_eq_false_iff_ne]; omega
              have hlp : 0 < st2.left := by omega
              cases oo with
              | false =>
                have HERR := hid (HER.out 4 (stepR_no HOO.out (by omega)))
                go_wp2_with (go_at_call 32; (with_reducible refine HNUM.out.mono ?_); rintro e w4 ⟨rfl, rfl⟩)
                obtain ⟨d0, d1⟩ := box_two HRI2.out.b0 (.int .i64 0) (.slice none 0 0)
                refine bodyPost_ret (v := .tuple #[.agg #[.int .i64 0, .slice none 0 0], .int .i64 ((i : Int) + 1), .int .i64 4]) (by simp [results, Tryd.results16, go_sem, d0, d1]) rfl ?_
                exact rp_err (parse_of_err HS.out HLS.out HERR.out) (((HRI2.out.old HBW.out).setCell (p := ⟨w.heap.size, 0, none⟩) (Nat.le_refl _) _).setCell (p := ⟨w.heap.size, 1, none⟩) (Nat.le_refl _) _) rfl
              | true =>
                have hstep := stepR2 (y := y) HOO.out hlp HV.out HC1.out HRR.out hv0 hv1
                have HLP := hid (And.intro hlp hl2)
                clear hl1 hl2 hlp hz
                by_cases hg1 : V < r
                · have q5 : decide (V < r) = true := by simp; omega
                  have HERR := hid (HER.out 3 (by rw [hstep, if_pos (.inl hg1)]))
                  clear hstep
                  go_wp2_with (go_at_call 32; (with_reducible refine HNUM.out.mono ?_); rintro e w4 ⟨rfl, rfl⟩)
                  obtain ⟨d0, d1⟩ := box_two HRI2.out.b0 (.int .i64 0) (.slice none 0 0)
                  refine bodyPost_ret (v := .tuple #[.agg #[.int .i64 0, .slice none 0 0], .int .i64 ((i : Int) + 1), .int .i64 3]) (by simp [results, Tryd.results16, go_sem, d0, d1]) rfl ?_
                  exact rp_err (parse_of_err HS.out HLS.out HERR.out) (((HRI2.out.old HBW.out).setCell (p := ⟨w.heap.size, 0, none⟩) (Nat.le_refl _) _).setCell (p := ⟨w.heap.size, 1, none⟩) (Nat.le_refl _) _) rfl
                have q5 : decide (V < r) = false := by simp; omega
                by_cases hg2 : r < -V
                · have q6 : decide (r < -V) = true := by simp; omega
                  have HERR := hid (HER.out 3 (by rw [hstep, if_pos (.inr hg2)]))
                  clear hstep
                  go_wp2_with (go_at_call 32; (with_reducible refine HNUM.out.mono ?_); rintro e w4 ⟨rfl, rfl⟩)
                  obtain ⟨d0, d1⟩ := box_two HRI2.out.b0 (.int .i64 0) (.slice none 0 0)
                  refine bodyPost_ret (v := .tuple #[.agg #[.int .i64 0, .slice none 0 0], .int .i64 ((i : Int) + 1), .int .i64 3]) (by simp [results, Tryd.results16, go_sem, d0, d1]) rfl ?_
                  exact rp_err (parse_of_err HS.out HLS.out HERR.out) (((HRI2.out.old HBW.out).setCell (p := ⟨w.heap.size, 0, none⟩) (Nat.le_refl _) _).setCell (p := ⟨w.heap.size, 1, none⟩) (Nat.le_refl _) _) rfl
                have q6 : decide (r < -V) = false := by simp; omega
                rw [if_neg (by omega)] at hstep
                by_cases hr0 : r = 0
                · subst hr0
                  rw [if_pos rfl] at hstep
                  have HINV := hid (HRI2.out.inv.step hstep)
                  have HST := hid hstep
                  clear hstep
                  go_wp2_with (first
                    | (go_at_call 32; (with_reducible refine HNUM.out.mono ?_); rintro e w4 ⟨rfl, rfl⟩)
                    | (at_builtin; refine wpList_appG _ rfl (.tmp 114) (.tmp 116) 22 rfl wl.heap.size 34 (.slice none 0 0) 1 24 Tryd.underlying22 info_ints rfl (by decide) (.slice pv2 N1 kv2) N1 us rfl (HUS.out.alloc _) ⟨w4.heap.size, 0, none⟩ 1 1 [.slice pc2 C1 kc2] rfl rfl (RowR.lit (R := fun _ => True) w4 [.slice pc2 C1 kc2] 34 trivial) (by simp [Value.oneCell']) (by omega) (by unfold maxLen; omega) (by rw [World.size_alloc]; omega) ?_; intro v5 w5 ho5 hg5 hv5; obtain ⟨d10, d11, e10, e11⟩ := HRI2.out.b1g HWL.out hg5 (fun k hk => (HUS.out.lt k hk).1); obtain ⟨p5, k5, rfl⟩ := own_sliceG ho5; have HX5 := hid (HRI2.out.line HWL.out hg5 (by rw [HN1.out]; exact HUS.out) (by rw [HN1.out]; exact ho5) hv5 HINV.out); clear ho5 hg5 hv5))
                  go_roundw
                  case rel =>
                    exact ⟨j + 1, _, _, by omega, by go_num, HX5.out, ⟨HNXT.out _ HST.out, (by show (0 : Int) ≤ st2.left - 1 ∧ CL = st2.left - 1 + ((st2.cls ++ [st2.c]).length : Int); have := HLP.out.1; have := HLP.out.2; have := HN1.out; simp only [List.length_append, List.length_cons, List.length_nil]; constructor <;> omega)⟩⟩
                  case measure => (simp [intOf] <;> omega)
                have q7 : (r == 0) = false := by rw [beq_eq_false_iff_ne]; omega
                rw [if_neg hr0] at hstep
                by_cases hfull : C1 = 4096
                · have q8 : ((C1 : Int) == 4096) = true := by rw [hfull]; rfl
                  rw [if_pos hfull] at hstep
                  have HERR := hid (HER.out 5 hstep)
                  clear hstep hfull
                  go_wp2_with (go_at_call 32; (with_reducible refine HNUM.out.mono ?_); rintro e w4 ⟨rfl, rfl⟩)
                  obtain ⟨d0, d1⟩ := box_two HRI2.out.b0 (.int .i64 0) (.slice none 0 0)
                  refine bodyPost_ret (v := .tuple #[.agg #[.int .i64 0, .slice none 0 0], .int .i64 ((i : Int) + 1), .int .i64 5]) (by simp [results, Tryd.results16, go_sem, d0, d1]) rfl ?_
                  exact rp_err (parse_of_err HS.out HLS.out HERR.out) (((HRI2.out.old HBW.out).setCell (p := ⟨w.heap.size, 0, none⟩) (Nat.le_refl _) _).setCell (p := ⟨w.heap.size, 1, none⟩) (Nat.le_refl _) _) rfl
                · have q8 : ((C1 : Int) == 4096) = false := by rw [beq_eq_false_iff_ne]; omega
                  rw [if_neg hfull] at hstep
                  have HINV := hid (HRI2.out.inv.step hstep)
                  have HST := hid hstep
                  have HROWC := hid HRI2.out.acc.row
                  rw [HC1.out] at HROWC
                  clear hstep hfull
                  go_wp2_with (first
                    | (go_at_call 32; (with_reducible refine HNUM.out.mono ?_); rintro e w4 ⟨rfl, rfl⟩)
                    | (at_builtin; refine wpList_appG _ rfl (.tmp 125) (.tmp 127) 34 rfl wl.heap.size 3 (.int .i64 0) 1 8 Tryd.underlying34 info_int rfl (by decide) (.slice pc2 C1 kc2) C1 (st2.c.map (Value.int .i64)) rfl (HROWC.out.alloc _) ⟨w4.heap.size, 0, none⟩ 1 1 [.int .i64 r] rfl rfl (RowR.lit (R := fun _ => True) w4 [.int .i64 r] 3 trivial) (by simp [Value.oneCell']) (by omega) (by unfold maxLen; omega) (by rw [World.size_alloc]; omega) ?_; intro v5 w5 ho5 hg5 hv5; obtain ⟨p5, k5, rfl⟩ := own_sliceG ho5; have HX5 := hid (HRI2.out.push HWL.out hg5 (by rw [HC1.out]; exact ho5) hv5 HINV.out); clear ho5 hg5 hv5))
                  go_roundw
                  case rel =>
                    exact ⟨j + 1, _, _, by omega, by go_num, HX5.out, ⟨HNXT.out _ HST.out, (by show (0 : Int) ≤ st2.left ∧ CL = st2.left + (st2.cls.length : Int); have := HLP.out.1; have := HLP.out.2; have := HN1.out; constructor <;> omega)⟩⟩
                  case measure => (simp [intOf] <;> omega)
            · obtain rfl : j = NX := by omega
              have g2 : decide ((j : Int) < (j : Int)) = false := by simp
              have hw := HWI.out.run
              rw [List.drop_of_length_le (Nat.le_of_eq HNX.out)] at hw
              have hrun := HWD2.out
              rw [← hw] at hrun
              have HRUN := hid (show runF (i + 1 + 1) st2 false (ls.drop (i + 1)) = runF 1 ps0 true ls from hrun)
              have HLEFT := hid (show 0 ≤ st2.left ∧ CL = st2.left + (st2.cls.length : Int) from HWI.out.left)
              clear hw hrun
              go_wp2_with fail
              go_roundw
              case rel => exact ⟨i + 1, false, CL, st2, _, by omega, by go_num, rfl, rfl, HRI2.out, ⟨HRUN.out, (fun e => by cases e), fun _ => HLEFT.out⟩⟩
              case measure => (simp [intOf] <;> omega)
    · obtain rfl : i = NL := by omega
      have g1 : decide ((i : Int) < (i : Int)) = false := by simp
      have hrun := HLN2.out.run
      rw [List.drop_of_length_le (Nat.le_of_eq HLN.out.symm)] at hrun
      have hpo := parse_of_ok HS.out HLS.out (show runF 1 ps0 true ls = .ok (st, hd) from hrun.symm)
      have HPO := hid hpo
      clear hrun hpo
      cases hd with
      | true =>
        have hneg := HLN2.out.hd1 rfl
        have HP := hid (show parseM s = ((0, []), (i : Int) + 1, 4) from by rw [HPO.out, if_pos (by omega), HLN.out])
        clear hneg
        go_wp2_with fail
        obtain ⟨d0, d1⟩ := box_two HRI.out.b0 (.int .i64 0) (.slice none 0 0)
        refine bodyPost_ret (v := .tuple #[.agg #[.int .i64 0, .slice none 0 0], .int .i64 ((i : Int) + 1), .int .i64 4]) (by simp [results, Tryd.results16, go_sem, d0, d1]) rfl ?_
        exact rp_err HP.out (((HRI.out.old HBW.out).setCell (p := ⟨w.heap.size, 0, none⟩) (Nat.le_refl _) _).setCell (p := ⟨w.heap.size, 1, none⟩) (Nat.le_refl _) _) rfl
      | false =>
        obtain ⟨hl1, hl2⟩ := HLN2.out.hd0 rfl
        rw [HN0.out] at hl2
        by_cases hz : st.left = 0
        · have q4 : decide ((N0 : Int) < CL) = false := by simp; omega
          have HP := hid (show parseM s = ((st.vars, st.cls), 0, 0) from by rw [HPO.out, if_neg (by omega)])
          have HLL := hid (HRI.out.acc.ll (by have := HRI.out.inv.cls; rw [HN0.out, if_neg (by omega)] at this; rw [HN0.out]; omega))
          obtain ⟨V, hV⟩ : ∃ V, st.vars = V := ⟨_, rfl⟩
          rw [hV] at c10
          have HV := hid hV
          clear hl1 hl2 hz hV
          go_wp2_with fail
          obtain ⟨d0, d1⟩ := box_two HRI.out.b0 (.int .i64 V) (.slice pv N0 kv)
          refine bodyPost_ret (v := .tuple #[.agg #[.int .i64 V, .slice pv N0 kv], .int .i64 0, .int .i64 0]) (by simp [results, Tryd.results16, go_sem, d0, d1]) rfl ?_
          refine ⟨.slice pv N0 kv, by rw [HP.out, ← HV.out], ?_, ((HRI.out.old HBW.out).setCell (p := ⟨w.heap.size, 0, none⟩) (Nat.le_refl _) _).setCell (p := ⟨w.heap.size, 1, none⟩) (Nat.le_refl _) _⟩
          rw [HP.out]
          exact HLL.out.keep fun k ⟨h1, h2, _⟩ => ⟨⟨by have := HWL.out; omega, by simpa using h2⟩, (heap_oth (by have := HWL.out; omega) _).trans (heap_oth (by have := HWL.out; omega) _)⟩
        · have q4 : decide ((N0 : Int) < CL) = true := by simp; omega
          have HP := hid (show parseM s = ((0, []), (i : Int) + 1, 4) from by rw [HPO.out, if_pos hz, HLN.out])
          clear hl1 hl2 hz
          go_wp2_with fail
          obtain ⟨d0, d1⟩ := box_two HRI.out.b0 (.int .i64 0) (.slice none 0 0)
          refine bodyPost_ret (v := .tuple #[.agg #[.int .i64 0, .slice none 0 0], .int .i64 ((i : Int) + 1), .int .i64 4]) (by simp [results, Tryd.results16, go_sem, d0, d1]) rfl ?_
          exact rp_err HP.out (((HRI.out.old HBW.out).setCell (p := ⟨w.heap.size, 0, none⟩) (Nat.le_refl _) _).setCell (p := ⟨w.heap.size, 1, none⟩) (Nat.le_refl _) _) rfl

theorem rparse_any (s : Bs) (w : World) : Calls Tryd.prog 16 #[.string ⟨s.toArray⟩] w (ParsePost s w) := by
  by_cases h : 65536 < s.length
  · exact rparse_long s w h
  · exact rparse_short s w (by omega)

end Go.Proofs.YtfllhhgnflpagaaDoor
