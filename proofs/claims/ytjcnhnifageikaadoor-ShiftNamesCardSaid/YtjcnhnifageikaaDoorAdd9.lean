/-
  The walks of package adder's Equal and Less.
-/
import Derived.Test.YtjcnhnifageikaaDoorAdd8
namespace Go.Proofs.YtjcnhnifageikaaDoor
set_option linter.unusedSimpArgs false
set_option linter.unusedVariables false
open Go.RowKit Go.Shelf
attribute [local go_sem] Oper.semAt_some

/-- What a scalar loop carries: the state st, over the box Bd. -/
structure ScalI (mb bb Bd : Nat) (W0 : World) (st : Int × MS) (W : World) : Prop where
  m : IsM W mb bb st.2
  ad : AwayM mb bb W Bd
  c : W.cell? ⟨Bd, 0, none⟩ = some (.int .i64 st.1)
  cf : W.frozen? ⟨Bd, 0, none⟩ = false
  lp : AwayM mb bb W W0.heap.size ∧ AwayM mb bb W (W0.heap.size + 1)
  fr : Fr (fun j => AwayM mb bb W0 j ∧ j ≠ Bd) (fun j => AwayM mb bb W j ∧ j ≠ Bd) W0 W

theorem ScalI.cl {mb bb Bd : Nat} {W0 W W' : World} {st : Int × MS} {row : Option Nat} (h : ScalI mb bb Bd W0 st W) (hg : W.grownBy W' row)
    (hr : ∀ r, row = some r → W0.heap.size ≤ r ∧ ∃ o : Obj, W.heap[r]? = some o ∧ o.isCells = false) : ScalI mb bb Bd W0 st W' := by
  have hc := Cl.of hg (fun r e => (hr r e).2)
  have hm := hc.isM h.m
  refine ⟨hm.1, hm.2 _ h.ad, hc.cell h.c, (hc.frozen h.c).trans h.cf, ⟨hm.2 _ h.lp.1, hm.2 _ h.lp.2⟩, ?_⟩
  have hf := h.fr
  exact ⟨hg.os.trans hf.os, hg.tape.trans hf.tape, hg.output.trans hf.output, Nat.le_trans hf.size hg.size, fun j hj => by
    obtain ⟨⟨a1, a2⟩, e⟩ := hf.keep j hj
    have hjlt := hj.1.1.size
    exact ⟨⟨hm.2 _ a1, a2⟩, (hg.block j (Nat.lt_of_lt_of_le hjlt hf.size) (fun e' => by have := (hr j e'.symm).1; omega)).trans e⟩⟩

theorem scal_ok (step : Int × MS → Int × Int → Int × MS) (hs : ∀ st x, st.2.1.vars ≤ 1048576 → Bd st.1 → Bd x.1 → Bd x.2 → (step st x).2.1.vars ≤ 1048576 ∧ Bd (step st x).1) (l : List (Int × Int)) (hl : ∀ x ∈ l, Bd x.1 ∧ Bd x.2) :
    ∀ st : Int × MS, st.2.1.vars ≤ 1048576 → Bd st.1 → (l.foldl step st).2.1.vars ≤ 1048576 ∧ Bd (l.foldl step st).1 := by
  induction l with
  | nil => intro st h1 h2; exact ⟨h1, h2⟩
  | cons x l ih =>
    intro st h1 h2
    obtain ⟨a, b⟩ := hs st x h1 h2 (hl x (by simp)).1 (hl x (by simp)).2
    exact ih (fun y hy => hl y (by simp [hy])) _ a b
theorem eqStep_bd (st : Int × MS) (x : Int × Int) (hs : st.2.1.vars ≤ 1048576) (h1 : Bd st.1) (hx : Bd x.1) (hy : Bd x.2) : (eqStep st x).2.1.vars ≤ 1048576 ∧ Bd (eqStep st x).1 := by
  have hv := mkM_vars (g := fun F => xorM F x.1 x.2) (s := st.2) hs (fun F hF => xorM_vars F _ _ hF)
  have hb := mkM_bd (g := fun F => xorM F x.1 x.2) (s := st.2) (xorM_bd _ _ _ hs hx hy)
  exact ⟨mkM_vars hv (fun F hF => orM_vars F _ _ hF), mkM_bd (orM_bd _ _ _ hv h1 hb)⟩
theorem lsStep_bd (st : Int × MS) (x : Int × Int) (hs : st.2.1.vars ≤ 1048576) (h1 : Bd st.1) (hx : Bd x.1) (hy : Bd x.2) : (lsStep st x).2.1.vars ≤ 1048576 ∧ Bd (lsStep st x).1 := by
  have hv := mkM_vars (g := fun F => xorM F x.1 x.2) (s := st.2) hs (fun F hF => xorM_vars F _ _ hF)
  have hb := mkM_bd (g := fun F => xorM F x.1 x.2) (s := st.2) (xorM_bd _ _ _ hs hx hy)
  exact ⟨mkM_vars hv (fun F hF => muxM_vars F _ _ _ hF), mkM_bd (muxM_bd _ _ _ _ hv hy h1)⟩

end Go.Proofs.YtjcnhnifageikaaDoor
