/-
  The walks of package adder: opposite, the full adder.
  What the adder's loop carries, and that it abides the book-keeping of a range over a function.
-/
import Derived.Test.YtjcnhnifageikaaDoorRange
import Derived.Laws.MakeOwn
namespace Go.Proofs.YtjcnhnifageikaaDoor
set_option linter.unusedSimpArgs false
set_option linter.unusedVariables false
open Go.RowKit

theorem Fr.cell {R R' : Nat → Prop} {w w' : World} (h : Fr R R' w w') {k i : Nat} (hk : R k) : w'.cell? ⟨k, i, none⟩ = w.cell? ⟨k, i, none⟩ := World.cell?_of_block (a := ⟨k, i, none⟩) (h.keep k hk).2
theorem Fr.frozen {R R' : Nat → Prop} {w w' : World} (h : Fr R R' w w') {k i : Nat} (hk : R k) : w'.frozen? ⟨k, i, none⟩ = w.frozen? ⟨k, i, none⟩ := World.frozen?_of_block (a := ⟨k, i, none⟩) (h.keep k hk).2

/-- A store into a block that is neither the maker's nor the builder's. -/
theorem IsM.far {w : World} {mb bb m : Nat} {s : MS} (h : IsM w mb bb s) (hm : AwayM mb bb w m) (i : Nat) (u : Value) :
    IsM (w.setCell ⟨m, i, none⟩ u) mb bb s ∧ Fr (fun k => AwayM mb bb w k ∧ k ≠ m) (AwayM mb bb (w.setCell ⟨m, i, none⟩ u)) w (w.setCell ⟨m, i, none⟩ u) ∧ ∀ k, AwayM mb bb w k → AwayM mb bb (w.setCell ⟨m, i, none⟩ u) k := by
  obtain ⟨h1, h2, h3⟩ := h.b.far hm.1 i u
  exact ⟨⟨(Below.heap_setCell _ _ _ _ (fun e => hm.2 e.symm)).trans h.blk, h3 _ h.away, h1⟩, h2.weaken (fun k hk => ⟨hk.1.1, hk.2⟩) (fun k hk hk' => ⟨hk', hk.1.2⟩), fun k hk => ⟨h3 k hk.1, hk.2⟩⟩

theorem mkM_bd {g : Form → Out} {s : MS} (h : Bd (g s.1).1) : Bd (mkM g s).1 := by
  unfold mkM; split
  · exact Bd.zero
  · exact h

/-- The full adder: sum, carry, state. -/
def fullM (s : MS) (carry p q : Int) : Int × Int × MS :=
  let r1 := mkM (fun F => xorM F p q) s
  let r2 := mkM (fun F => xorM F r1.1 carry) r1.2
  let r3 := mkM (fun F => muxM F r1.1 carry p) r2.2
  (r2.1, r3.1, r3.2)

end Go.Proofs.YtjcnhnifageikaaDoor

namespace Go.Proofs.YtjcnhnifageikaaDoor
set_option linter.unusedSimpArgs false
set_option linter.unusedVariables false
open Go.RowKit

/-- Every row of cells is as it was. -/
structure Cl (W W' : World) : Prop where
  os : W'.os = W.os
  tape : W'.tape = W.tape
  output : W'.output = W.output
  size : W.heap.size ≤ W'.heap.size
  keep : ∀ (k : Nat) (c : Array Value) (t : TypeId) (fz : Nat × Nat), W.heap[k]? = some (Obj.cells c t fz) → W'.heap[k]? = some (Obj.cells c t fz)
theorem Cl.of {W W' : World} {row : Option Nat} (hg : W.grownBy W' row) (hr : ∀ r, row = some r → ∃ o : Obj, W.heap[r]? = some o ∧ o.isCells = false) : Cl W W' :=
  ⟨hg.os, hg.tape, hg.output, hg.size, fun k c t fz hk => (hg.block k (Array.getElem?_eq_some_iff.1 hk).1 (fun e => by
    obtain ⟨o, ho, hc⟩ := hr k e.symm
    rw [hk] at ho
    injection ho with ho
    subst ho
    cases hc)).trans hk⟩
theorem Cl.cell {W W' : World} (h : Cl W W') {p : Addr} {v : Value} (hc : W.cell? p = some v) : W'.cell? p = some v := by
  unfold World.cell? at hc ⊢
  cases hb : W.heap[p.block]? with
  | none => rw [hb] at hc; simp at hc
  | some o =>
    rw [hb] at hc
    cases o with
    | cells c t fz => rw [h.keep _ _ _ _ hb]; exact hc
    | _ => simp at hc
theorem Cl.frozen {W W' : World} (h : Cl W W') {p : Addr} {v : Value} (hc : W.cell? p = some v) : W'.frozen? p = W.frozen? p := by
  unfold World.cell? at hc
  unfold World.frozen?
  cases hb : W.heap[p.block]? with
  | none => rw [hb] at hc; simp at hc
  | some o =>
    rw [hb] at hc
    cases o with
    | cells c t fz => rw [h.keep _ _ _ _ hb]
    | _ => simp at hc
theorem Cl.owns {W W' : World} (h : Cl W W') {base e n : Nat} {v : Value} {xs : List Value} (ho : W.ownsRow base e 1 v n xs) : W'.ownsRow base e 1 v n xs := by
  refine ⟨ho.1, ?_⟩
  rcases ho.2 with h' | ⟨g, cap, cur, hv, hb, hg, rest⟩
  · exact .inl h'
  · exact .inr ⟨g, cap, cur, hv, hb, h.keep _ _ _ _ hg, rest⟩
theorem Cl.row {W W' : World} (h : Cl W W') {R R' : Nat → Prop} (hR : ∀ k, R k → R' k) {p : Option Addr} {cs : List Value} (hr : RowR R W p cs) : RowR R' W' p cs := by
  rcases hr with hr | ⟨b, off, hp, hb, hc⟩
  · exact .inl hr
  · exact .inr ⟨b, off, hp, hR _ hb, fun j hj => h.cell (hc j hj)⟩
theorem Cl.isB {W W' : World} (h : Cl W W') {bb : Nat} {F : Form} (hB : IsB W bb F) : IsB W' bb F ∧ ∀ k, Away bb W k → Away bb W' k := by
  obtain ⟨v, vs, hh, ho, hne, hl, hc, hr⟩ := hB.ex
  have hh' := h.keep _ _ _ _ hh
  have ho' := h.owns ho
  have hRd : ∀ k, Rd bb W k → Rd bb W' k := fun k hk => ⟨Nat.lt_of_lt_of_le hk.1 h.size, hk.2.1, by have := hk.2.2; rw [bblk_of hh] at this; rw [bblk_of hh']; exact this⟩
  refine ⟨⟨⟨v, vs, hh', ho', hne, hl, fun i hi hi' => ?_, fun u hu k hk => hRd k (hr u hu k hk)⟩, hB.pos, hB.vars, hB.cls⟩, fun k hk => ⟨hRd k hk.1, fun e => hk.2 ((bcl_of hh ho).2 ((bcl_of hh' ho').1 e))⟩⟩
  obtain ⟨p, c, e1, h1, h2, h3, hrow⟩ := hc i hi hi'
  exact ⟨p, c, e1, h1, h2, h3, h.row hRd hrow⟩
theorem Cl.isM {W W' : World} (h : Cl W W') {mb bb : Nat} {s : MS} (hM : IsM W mb bb s) : IsM W' mb bb s ∧ ∀ k, AwayM mb bb W k → AwayM mb bb W' k :=
  ⟨⟨h.keep _ _ _ _ hM.blk, (h.isB hM.b).2 _ hM.away, (h.isB hM.b).1⟩, fun k hk => ⟨(h.isB hM.b).2 _ hk.1, hk.2⟩⟩

/-- A step that turns one block at most, which is not the builder's. -/
theorem IsB.grown {w w' : World} {bb : Nat} {F : Form} {row : Option Nat} (h : IsB w bb F) (hg : w.grownBy w' row) (hr : ∀ r, row = some r → Away bb w r) :
    IsB w' bb F ∧ ∀ k, Away bb w k → Away bb w' k := by
  obtain ⟨v, vs, hh, ho, hne, hl, hc, hrd⟩ := h.ex
  have hb : ∀ k, k < w.heap.size → (∀ r, row = some r → k ≠ r) → w'.heap[k]? = w.heap[k]? := fun k hk hk' => hg.block k hk (fun e => hk' k e.symm rfl)
  have hh' := (hb bb h.lt (fun r e => (hr r e).ne.symm)).trans hh
  have ho' : w'.ownsRow 0 23 1 v vs.length vs := by
    refine ho.kept hg ?_
    cases hv : v.ownBlock with
    | none => exact .inl rfl
    | some g =>
      refine .inr fun e => ?_
      have := (hr g e.symm).1.2.2
      rw [bblk_of hh, hv] at this
      exact this rfl
  have hRd : ∀ k, Rd bb w k → Rd bb w' k := fun k hk => ⟨Nat.lt_of_lt_of_le hk.1 hg.size, hk.2.1, by have := hk.2.2; rw [bblk_of hh] at this; rw [bblk_of hh']; exact this⟩
  refine ⟨⟨⟨v, vs, hh', ho', hne, hl, fun i hi hi' => ?_, fun u hu k hk => hRd k (hrd u hu k hk)⟩, h.pos, h.vars, h.cls⟩, fun k hk => ⟨hRd k hk.1, fun e => hk.2 ((bcl_of hh ho).2 ((bcl_of hh' ho').1 e))⟩⟩
  refine Sl.keep (Sl.own (hc i hi hi')) (fun k hk => ⟨hRd k hk.1, hb k hk.1.1 (fun r e e' => ?_)⟩)
  subst e'
  exact (hr k e).2 ((bcl_of hh ho).2 ⟨_, List.getElem_mem hi', hk.2⟩)
theorem IsM.grown {w w' : World} {mb bb : Nat} {s : MS} {row : Option Nat} (h : IsM w mb bb s) (hg : w.grownBy w' row) (hr : ∀ r, row = some r → AwayM mb bb w r) :
    IsM w' mb bb s ∧ ∀ k, AwayM mb bb w k → AwayM mb bb w' k := by
  obtain ⟨h1, h2⟩ := h.b.grown hg (fun r e => (hr r e).1)
  exact ⟨⟨(hg.block mb h.away.size (fun e => (hr mb e.symm).2 rfl)).trans h.blk, h2 _ h.away, h1⟩, fun k hk => ⟨h2 k hk.1, hk.2⟩⟩

/-! ### sums -/
def addStep (st : List Int × Int × MS) (pq : Int × Int) : List Int × Int × MS :=
  let r := fullM st.2.2 st.2.1 pq.1 pq.2
  (st.1 ++ [r.1], r.2.1, r.2.2)
def addF (s : MS) (carry : Int) (l : List (Int × Int)) : List Int × Int × MS := l.foldl addStep ([], carry, s)
theorem addF_snoc (s : MS) (carry : Int) (l : List (Int × Int)) (pq : Int × Int) : addF s carry (l ++ [pq]) = addStep (addF s carry l) pq := by simp [addF]
theorem addF_len0 (l : List (Int × Int)) : ∀ st, (l.foldl addStep st).1.length = st.1.length + l.length := by
  induction l with
  | nil => intro st; rfl
  | cons x l ih => intro st; rw [List.foldl_cons, ih]; simp [addStep]; omega
theorem addF_len (s : MS) (carry : Int) (l : List (Int × Int)) : (addF s carry l).1.length = l.length := by
  have := addF_len0 l ([], carry, s)
  simpa [addF] using this
theorem fullM_bd {mb bb : Nat} {s : MS} {c p q : Int} (hM : (s.1).vars ≤ 1048576) (hp : Bd p) (hq : Bd q) (hc : Bd c)
    (h1 : (mkM (fun F => xorM F p q) s).2.1.vars ≤ 1048576) (h2 : (mkM (fun F => xorM F (mkM (fun F => xorM F p q) s).1 c) (mkM (fun F => xorM F p q) s).2).2.1.vars ≤ 1048576) :
    Bd (fullM s c p q).1 ∧ Bd (fullM s c p q).2.1 := by
  have b1 := mkM_bd (g := fun F => xorM F p q) (s := s) (xorM_bd _ _ _ hM hp hq)
  exact ⟨mkM_bd (xorM_bd _ _ _ h1 b1 hc), mkM_bd (muxM_bd _ _ _ _ h2 hc hp)⟩

/-- A formula's number of variables stays within the limit. -/
theorem writeM_vars (F : Form) (k : Nat) (args : List Int) (h : F.vars ≤ 1048576) : (writeM F k args).2.2.vars ≤ 1048576 := by
  unfold writeM; split
  · exact h
  · simp; omega
theorem andM_vars (F : Form) (x y : Int) (h : F.vars ≤ 1048576) : (andM F x y).2.2.vars ≤ 1048576 := by
  have := writeM_vars F 0 [x, y] h
  unfold andM
  repeat' split
  all_goals first | exact h | exact this
theorem xorM_vars (F : Form) (x y : Int) (h : F.vars ≤ 1048576) : (xorM F x y).2.2.vars ≤ 1048576 := by
  have := writeM_vars F 1 [x, y] h
  unfold xorM
  repeat' split
  all_goals first | exact h | exact this
theorem muxM_vars (F : Form) (c x y : Int) (h : F.vars ≤ 1048576) : (muxM F c x y).2.2.vars ≤ 1048576 := by
  have := writeM_vars F 2 [c, x, y] h
  unfold muxM
  repeat' split
  all_goals first | exact h | exact this
theorem orM_vars (F : Form) (x y : Int) (h : F.vars ≤ 1048576) : (orM F x y).2.2.vars ≤ 1048576 := andM_vars F _ _ h
theorem mkM_vars {g : Form → Out} {s : MS} (h : s.1.vars ≤ 1048576) (hg : ∀ F : Form, F.vars ≤ 1048576 → (g F).2.2.vars ≤ 1048576) : (mkM g s).2.1.vars ≤ 1048576 := by
  unfold mkM; split
  · exact h
  · exact hg _ h
theorem fullM_vars (s : MS) (c p q : Int) (h : s.1.vars ≤ 1048576) : (fullM s c p q).2.2.1.vars ≤ 1048576 :=
  mkM_vars (mkM_vars (mkM_vars h fun F hF => xorM_vars F _ _ hF) fun F hF => xorM_vars F _ _ hF) fun F hF => muxM_vars F _ _ _ hF
theorem fullM_bds (s : MS) (c p q : Int) (h : s.1.vars ≤ 1048576) (hp : Bd p) (hq : Bd q) (hc : Bd c) : Bd (fullM s c p q).1 ∧ Bd (fullM s c p q).2.1 :=
  fullM_bd (mb := 0) (bb := 0) h hp hq hc (mkM_vars h fun F hF => xorM_vars F _ _ hF) (mkM_vars (mkM_vars h fun F hF => xorM_vars F _ _ hF) fun F hF => xorM_vars F _ _ hF)
theorem addF_ok (s : MS) (c : Int) (l : List (Int × Int)) (h : s.1.vars ≤ 1048576) (hc : Bd c) (hl : ∀ x ∈ l, Bd x.1 ∧ Bd x.2) :
    (addF s c l).2.2.1.vars ≤ 1048576 ∧ Bd (addF s c l).2.1 ∧ ∀ x ∈ (addF s c l).1, Bd x := by
  suffices h' : ∀ (l : List (Int × Int)) (st : List Int × Int × MS), (∀ x ∈ l, Bd x.1 ∧ Bd x.2) → st.2.2.1.vars ≤ 1048576 → Bd st.2.1 → (∀ x ∈ st.1, Bd x) →
      (l.foldl addStep st).2.2.1.vars ≤ 1048576 ∧ Bd (l.foldl addStep st).2.1 ∧ ∀ x ∈ (l.foldl addStep st).1, Bd x by
    exact h' l ([], c, s) hl h hc (by simp)
  intro l
  induction l with
  | nil => intro st _ h1 h2 h3; exact ⟨h1, h2, h3⟩
  | cons x l ih =>
    intro st hl h1 h2 h3
    rw [List.foldl_cons]
    obtain ⟨hx1, hx2⟩ := hl x (by simp)
    have hb := fullM_bds st.2.2 st.2.1 x.1 x.2 h1 hx1 hx2 h2
    refine ih _ (fun y hy => hl y (by simp [hy])) (fullM_vars _ _ _ _ h1) hb.2 (fun y hy => ?_)
    simp only [addStep, List.mem_append, List.mem_singleton] at hy
    rcases hy with hy | rfl
    · exact h3 y hy
    · exact hb.1

/-- What the adder's loop carries: the state st, over the boxes Bc (the carry) and Bo (the sum so far). -/
structure AddI (mb bb Bc Bo : Nat) (W0 : World) (st : List Int × Int × MS) (k : Nat) (W : World) : Prop where
  m : IsM W mb bb st.2.2
  ac : AwayM mb bb W Bc
  ao : AwayM mb bb W Bo
  c : W.cell? ⟨Bc, 0, none⟩ = some (.int .i64 st.2.1)
  cf : W.frozen? ⟨Bc, 0, none⟩ = false
  o : ∃ v, W.cell? ⟨Bo, 0, none⟩ = some v ∧ W.frozen? ⟨Bo, 0, none⟩ = false ∧ W.ownsRow (W0.heap.size + 2) 3 1 v k (st.1.map (Value.int .i64)) ∧ ∀ j, v.ownBlock = some j → AwayM mb bb W j
  lp : AwayM mb bb W W0.heap.size ∧ AwayM mb bb W (W0.heap.size + 1)
  fr : Fr (fun j => AwayM mb bb W0 j ∧ j ≠ Bc ∧ j ≠ Bo) (fun j => AwayM mb bb W j ∧ j ≠ Bc ∧ j ≠ Bo) W0 W

theorem AddI.cl {mb bb Bc Bo : Nat} {W0 W W' : World} {st : List Int × Int × MS} {k : Nat} {row : Option Nat} (h : AddI mb bb Bc Bo W0 st k W) (hg : W.grownBy W' row)
    (hr : ∀ r, row = some r → W0.heap.size ≤ r ∧ ∃ o : Obj, W.heap[r]? = some o ∧ o.isCells = false) : AddI mb bb Bc Bo W0 st k W' := by
  have hc := Cl.of hg (fun r e => (hr r e).2)
  have hm := hc.isM h.m
  obtain ⟨v, hv, hvf, ho, hj⟩ := h.o
  refine ⟨hm.1, hm.2 _ h.ac, hm.2 _ h.ao, hc.cell h.c, (hc.frozen h.c).trans h.cf, ⟨v, hc.cell hv, (hc.frozen hv).trans hvf, hc.owns ho, fun j e => hm.2 _ (hj j e)⟩, ⟨hm.2 _ h.lp.1, hm.2 _ h.lp.2⟩, ?_⟩
  have hf := h.fr
  exact ⟨hg.os.trans hf.os, hg.tape.trans hf.tape, hg.output.trans hf.output, Nat.le_trans hf.size hg.size, fun j hj => by
    obtain ⟨⟨a1, a2⟩, e⟩ := hf.keep j hj
    have hjlt := hj.1.1.size
    exact ⟨⟨hm.2 _ a1, a2⟩, (hg.block j (Nat.lt_of_lt_of_le hjlt hf.size) (fun e' => by have := (hr j e'.symm).1; omega)).trans e⟩⟩

end Go.Proofs.YtjcnhnifageikaaDoor
