/-
  What dimacs.Parse holds between two words.
-/
import Derived.Test.YtfllhhgnflpagaaDoorDmJ
namespace Go.Proofs.YtfllhhgnflpagaaDoor
set_option linter.unusedSimpArgs false
set_option linter.unusedVariables false
open Go.RowKit Go.Shelf
attribute [local go_sem] Oper.semAt_some

/-! ### plain: what is kept by every step -/
structure PInv (st : PS) : Prop where
  c : st.c.length ≤ 4096
  cls : (st.cls.length : Int) + (if st.left < 0 then 0 else st.left) ≤ 1048576
  neg : st.left < 0 → st.cls = [] ∧ st.c = []
  v0 : 0 ≤ st.vars
  v1 : st.vars ≤ 1048576
theorem headM_bounds {l : List Bs} (h : (headM l).2.2 = 0) : 0 ≤ (headM l).1 ∧ (headM l).1 ≤ 1048576 ∧ (headM l).2.1 ≤ 1048576 := by
  revert h
  unfold headM
  split
  · split
    · rename_i v c hv hc
      split
      · simp
      · split
        · simp
        · split
          · simp
          · rename_i h1 h2 h3
            intro _
            exact ⟨numM_pos hv (fun e => h1 (.inl e)), by show v ≤ _; omega, by show c ≤ _; omega⟩
    · simp
  · simp
theorem PInv.step {st st' : PS} {l : List Bs} (h : PInv st) (hs : stepP st l = .ok st') : PInv st' := by
  have hl := stepP_left hs
  obtain ⟨h1, h2, h3, h4, h5⟩ := h
  unfold stepP at hs
  split at hs
  · rename_i hneg
    split at hs
    · rename_i h0
      cases hs
      obtain ⟨a, b, c⟩ := headM_bounds h0
      obtain ⟨e1, e2⟩ := h3 hneg
      exact ⟨by show st.c.length ≤ _; rw [e2]; simp, by show (st.cls.length : Int) + (if (headM l).2.1 < 0 then 0 else (headM l).2.1) ≤ _; rw [e1]; simp; split <;> omega, fun hh => absurd hh (by show ¬ (headM l).2.1 < 0; have := hl; simp only at this; omega), a, b⟩
    · cases hs
  · rename_i hpos
    split at hs
    · cases hs
    · split at hs
      · cases hs
      · rename_i hz
        rw [if_neg hpos] at h2
        split at hs
        · cases hs
        · split at hs
          · cases hs
            refine ⟨by simp, ?_, fun hh => ?_, h4, h5⟩
            · show ((st.cls ++ [st.c]).length : Int) + (if st.left - 1 < 0 then 0 else st.left - 1) ≤ _
              simp
              split <;> omega
            · have : st.left - 1 < 0 := hh
              omega
          · split at hs
            · cases hs
            · rename_i hne hc
              cases hs
              refine ⟨?_, ?_, fun hh => absurd hh (by show ¬ st.left < 0; exact hpos), h4, h5⟩
              · show (st.c ++ [_]).length ≤ _
                simp; omega
              · show (st.cls.length : Int) + (if st.left < 0 then 0 else st.left) ≤ _
                rw [if_neg hpos]; exact h2
theorem PInv.start : PInv ps0 := ⟨by simp [ps0], by simp [ps0], fun _ => ⟨rfl, rfl⟩, by simp [ps0], by simp [ps0]⟩

/-! ### the five blocks -/
structure Fv (B : Nat) (v0 v1 v2 v3 v4 v5 : Value) (W : World) : Prop where
  b0 : W.heap[B]? = some (.cells #[v0, v1] 24 (0, 0))
  b1 : W.heap[B + 1]? = some (.cells #[v2] 3 (0, 0))
  b2 : W.heap[B + 1 + 1]? = some (.cells #[v3] 27 (0, 0))
  b3 : W.heap[B + 1 + 1 + 1]? = some (.cells #[v4] 3 (0, 0))
  b4 : W.heap[B + 1 + 1 + 1 + 1]? = some (.cells #[v5] 34 (0, 0))
theorem Fv.keep {B : Nat} {v0 v1 v2 v3 v4 v5 : Value} {W W' : World} (h : Fv B v0 v1 v2 v3 v4 v5 W) (hf : ∀ k, B ≤ k → k < B + 5 → W'.heap[k]? = W.heap[k]?) : Fv B v0 v1 v2 v3 v4 v5 W' :=
  ⟨(hf _ (by omega) (by omega)).trans h.b0, (hf _ (by omega) (by omega)).trans h.b1, (hf _ (by omega) (by omega)).trans h.b2, (hf _ (by omega) (by omega)).trans h.b3, (hf _ (by omega) (by omega)).trans h.b4⟩
theorem heap_set {W : World} {b i : Nat} {cs : Array Value} {t : TypeId} (h : W.heap[b]? = some (.cells cs t (0, 0))) (v : Value) : (W.setCell ⟨b, i, none⟩ v).heap[b]? = some (.cells (cs.setIfInBounds i v) t (0, 0)) := by
  simp only [World.setCell, Array.getElem?_modify]
  rw [h]
  simp
theorem heap_oth {W : World} {b i k : Nat} (h : k ≠ b) (v : Value) : (W.setCell ⟨b, i, none⟩ v).heap[k]? = W.heap[k]? := Below.heap_setCell _ _ _ _ h
section
variable {B : Nat} {v0 v1 v2 v3 v4 v5 : Value} {W : World} (h : Fv B v0 v1 v2 v3 v4 v5 W) (v : Value)
include h
theorem Fv.s0 : Fv B v v1 v2 v3 v4 v5 (W.setCell ⟨B, 0, none⟩ v) := ⟨by rw [heap_set h.b0]; rfl, (heap_oth (by omega) v).trans h.b1, (heap_oth (by omega) v).trans h.b2, (heap_oth (by omega) v).trans h.b3, (heap_oth (by omega) v).trans h.b4⟩
theorem Fv.s1 : Fv B v0 v v2 v3 v4 v5 (W.setCell ⟨B, 1, none⟩ v) := ⟨by rw [heap_set h.b0]; rfl, (heap_oth (by omega) v).trans h.b1, (heap_oth (by omega) v).trans h.b2, (heap_oth (by omega) v).trans h.b3, (heap_oth (by omega) v).trans h.b4⟩
theorem Fv.s2 : Fv B v0 v1 v v3 v4 v5 (W.setCell ⟨B + 1, 0, none⟩ v) := ⟨(heap_oth (by omega) v).trans h.b0, by rw [heap_set h.b1]; rfl, (heap_oth (by omega) v).trans h.b2, (heap_oth (by omega) v).trans h.b3, (heap_oth (by omega) v).trans h.b4⟩
theorem Fv.s3 : Fv B v0 v1 v2 v v4 v5 (W.setCell ⟨B + 1 + 1, 0, none⟩ v) := ⟨(heap_oth (by omega) v).trans h.b0, (heap_oth (by omega) v).trans h.b1, by rw [heap_set h.b2]; rfl, (heap_oth (by omega) v).trans h.b3, (heap_oth (by omega) v).trans h.b4⟩
theorem Fv.s4 : Fv B v0 v1 v2 v3 v v5 (W.setCell ⟨B + 1 + 1 + 1, 0, none⟩ v) := ⟨(heap_oth (by omega) v).trans h.b0, (heap_oth (by omega) v).trans h.b1, (heap_oth (by omega) v).trans h.b2, by rw [heap_set h.b3]; rfl, (heap_oth (by omega) v).trans h.b4⟩
theorem Fv.s5 : Fv B v0 v1 v2 v3 v4 v (W.setCell ⟨B + 1 + 1 + 1 + 1, 0, none⟩ v) := ⟨(heap_oth (by omega) v).trans h.b0, (heap_oth (by omega) v).trans h.b1, (heap_oth (by omega) v).trans h.b2, (heap_oth (by omega) v).trans h.b3, by rw [heap_set h.b4]; rfl⟩
end
theorem cell_lit1 {W : World} {k : Nat} {v : Value} {t : TypeId} (h : W.heap[k]? = some (.cells #[v] t (0, 0))) : W.cell? ⟨k, 0, none⟩ = some v ∧ W.frozen? ⟨k, 0, none⟩ = false :=
  ⟨by simp [World.cell?, h], by simp [World.frozen?, h]⟩
theorem cell_lit2 {W : World} {k : Nat} {v u : Value} {t : TypeId} (h : W.heap[k]? = some (.cells #[v, u] t (0, 0))) : W.cell? ⟨k, 0, none⟩ = some v ∧ W.cell? ⟨k, 1, none⟩ = some u ∧ W.frozen? ⟨k, 0, none⟩ = false ∧ W.frozen? ⟨k, 1, none⟩ = false :=
  ⟨by simp [World.cell?, h], by simp [World.cell?, h], by simp [World.frozen?, h], by simp [World.frozen?, h]⟩
/-- All that the walk asks of the five blocks. -/
theorem Fv.all {B : Nat} {v0 v1 v2 v3 v4 v5 : Value} {W : World} (h : Fv B v0 v1 v2 v3 v4 v5 W) :
    (W.cell? ⟨B, 0, none⟩ = some v0 ∧ W.cell? ⟨B, 1, none⟩ = some v1 ∧ W.frozen? ⟨B, 0, none⟩ = false ∧ W.frozen? ⟨B, 1, none⟩ = false) ∧
    (W.cell? ⟨B + 1, 0, none⟩ = some v2 ∧ W.frozen? ⟨B + 1, 0, none⟩ = false) ∧ (W.cell? ⟨B + 1 + 1, 0, none⟩ = some v3 ∧ W.frozen? ⟨B + 1 + 1, 0, none⟩ = false) ∧
    (W.cell? ⟨B + 1 + 1 + 1, 0, none⟩ = some v4 ∧ W.frozen? ⟨B + 1 + 1 + 1, 0, none⟩ = false) ∧ (W.cell? ⟨B + 1 + 1 + 1 + 1, 0, none⟩ = some v5 ∧ W.frozen? ⟨B + 1 + 1 + 1 + 1, 0, none⟩ = false) :=
  ⟨cell_lit2 h.b0, cell_lit1 h.b1, cell_lit1 h.b2, cell_lit1 h.b3, cell_lit1 h.b4⟩

/-! ### the clauses, and the clause under way -/
theorem owns_keepG {base e sz n : Nat} {w w' : World} {v : Value} {xs : List Value} (h : w.ownsRow base e sz v n xs) (hf : ∀ j, v.ownBlock = some j → w'.heap[j]? = w.heap[j]?) : w'.ownsRow base e sz v n xs := by
  refine ⟨h.1, ?_⟩
  rcases h.2 with ⟨h1, h2⟩ | ⟨g, cap, cur, h1, h2, h3, h4⟩
  · exact .inl ⟨h1, h2⟩
  · exact .inr ⟨g, cap, cur, h1, h2, (hf g (by rw [h1]; rfl)).trans h3, h4⟩
theorem own_sliceG {base e sz n : Nat} {w : World} {v : Value} {xs : List Value} (h : w.ownsRow base e sz v n xs) : ∃ p c, v = .slice p n c := by
  rcases h.2 with ⟨h1, h2⟩ | ⟨g, cap, cur, h1, _⟩
  · exact ⟨none, 0, by rw [h1, h2]⟩
  · exact ⟨_, _, h1⟩
structure CAcc (B : Nat) (F : Nat → Prop) (W : World) (cv cc : Value) (cls : List (List Int)) (c : List Int) : Prop where
  lines : ∃ vs : List Value, W.ownsRow B 34 1 cv cls.length vs ∧ vs.length = cls.length ∧
    ∀ i (h : i < cls.length) (h' : i < vs.length), Ints (fun k => B ≤ k ∧ k < W.heap.size ∧ ¬ F k ∧ cv.ownBlock ≠ some k ∧ cc.ownBlock ≠ some k) W vs[i] cls[i]
  row : W.ownsRow B 3 1 cc c.length (c.map (Value.int .i64))
  ncv : ∀ k, cv.ownBlock = some k → ¬ F k ∧ cc.ownBlock ≠ some k
  ncc : ∀ k, cc.ownBlock = some k → ¬ F k
theorem CAcc.nil (B : Nat) (F : Nat → Prop) (W : World) : CAcc B F W (.slice none 0 0) (.slice none 0 0) [] [] :=
  ⟨⟨[], World.ownsRow_nil _ _ _ _, rfl, fun i h => absurd h (by simp)⟩, World.ownsRow_nil _ _ _ _, fun k h => (by cases h), fun k h => (by cases h)⟩
theorem CAcc.keep {B : Nat} {F F' : Nat → Prop} {W W' : World} {cv cc : Value} {cls : List (List Int)} {c : List Int} (h : CAcc B F W cv cc cls c) (hs : W.heap.size ≤ W'.heap.size)
    (hf : ∀ k, B ≤ k → k < W.heap.size → ¬ F k → W'.heap[k]? = W.heap[k]?) (hF : ∀ k, F' k → F k ∨ W.heap.size ≤ k) : CAcc B F' W' cv cc cls c := by
  obtain ⟨⟨vs, h1, h2, h3⟩, h4, h5, h6⟩ := h
  have nF : ∀ k, k < W.heap.size → ¬ F k → ¬ F' k := fun k hk hn h' => by
    rcases hF k h' with h' | h'
    · exact hn h'
    · omega
  refine ⟨⟨vs, owns_keepG h1 fun j hj => hf j (h1.lt j hj).1 (h1.lt j hj).2 (h5 j hj).1, h2, fun i hi hi' => (h3 i hi hi').keep fun k ⟨a, b, d, e, g⟩ => ⟨⟨a, Nat.lt_of_lt_of_le b hs, nF k b d, e, g⟩, hf k a b d⟩⟩,
    owns_keepG h4 fun j hj => hf j (h4.lt j hj).1 (h4.lt j hj).2 (h6 j hj), fun k hk => ⟨nF k (h1.lt k hk).2 (h5 k hk).1, (h5 k hk).2⟩, fun k hk => nF k (h4.lt k hk).2 (h6 k hk)⟩
/-- A number is appended. -/
theorem CAcc.push {B : Nat} {F : Nat → Prop} {W W' : World} {cv cc cc' : Value} {cls : List (List Int)} {c : List Int} {x : Int} {o : Obj} (h : CAcc B F W cv cc cls c) (hB : Bnd F W)
    (hg : (W.alloc o).grownBy W' cc.ownBlock) (ho : W'.ownsRow B 3 1 cc' (c.length + 1) (c.map (Value.int .i64) ++ [.int .i64 x])) (hv : cc'.ownBlock = cc.ownBlock ∨ cc'.ownBlock = some (W.alloc o).heap.size) :
    CAcc B F W' cv cc' cls (c ++ [x]) := by
  obtain ⟨⟨vs, h1, h2, h3⟩, h4, h5, h6⟩ := h
  have hsz : W.heap.size + 1 ≤ W'.heap.size := by have := hg.size; simpa using this
  have hk : ∀ k, k < W.heap.size → cc.ownBlock ≠ some k → W'.heap[k]? = W.heap[k]? := fun k hk hne =>
    (hg.block k (by simp; omega) (fun e => hne e.symm)).trans (Below.heap_alloc _ _ _ hk)
  have hnew : ∀ k, k < W.heap.size → cc.ownBlock ≠ some k → cc'.ownBlock ≠ some k := fun k hk hne e => by
    rcases hv with hv | hv
    · exact hne (hv ▸ e)
    · rw [hv] at e; cases e; simp at hk; omega
  refine ⟨⟨vs, owns_keepG h1 fun j hj => hk j (h1.lt j hj).2 (h5 j hj).2, h2, fun i hi hi' => (h3 i hi hi').keep fun k ⟨a, b, d, e, g⟩ => ⟨⟨a, by omega, d, e, hnew k b g⟩, hk k b g⟩⟩, ?_, fun k hk' => ⟨(h5 k hk').1, hnew k (h1.lt k hk').2 (h5 k hk').2⟩, fun k hk' => ?_⟩
  · rw [List.length_append, List.map_append]; exact ho
  · rcases hv with hv | hv
    · exact h6 k (hv ▸ hk')
    · rw [hv] at hk'
      cases hk'
      intro hF
      have := hB _ hF
      rw [World.size_alloc] at this
      omega
/-- A clause ends. -/
theorem CAcc.line {B : Nat} {F : Nat → Prop} {W W' : World} {cv cv' cc : Value} {cls : List (List Int)} {c : List Int} {o : Obj} (h : CAcc B F W cv cc cls c) (hB : Bnd F W) (hc : c.length ≤ 140737488355328)
    (hg : (W.alloc o).grownBy W' cv.ownBlock) {us : List Value} (hus : W.ownsRow B 34 1 cv cls.length us) (ho : W'.ownsRow B 34 1 cv' (cls.length + 1) (us ++ [cc])) (hv : cv'.ownBlock = cv.ownBlock ∨ cv'.ownBlock = some (W.alloc o).heap.size) :
    CAcc B F W' cv' (.slice none 0 0) (cls ++ [c]) [] := by
  obtain ⟨⟨vs, h1, h2, h3⟩, h4, h5, h6⟩ := h
  have e1 : us = vs := by
    rcases h1.2 with ⟨a, b⟩ | ⟨g, cap, cur, a, b, d, e, f, i, j⟩
    · have h1' := h1.1; have h2' := hus.1
      rw [b] at h1' h2'
      simp at h1' h2'
      rw [h1', h2']
    · rcases hus.2 with ⟨a', b'⟩ | ⟨g', cap', cur', a', b', d', e', f', i', j'⟩
      · rw [a] at a'; cases a'
      · rw [a] at a'; cases a'
        rw [d] at d'; cases d'
        rw [← j, ← j']
  subst e1
  have hsz : W.heap.size + 1 ≤ W'.heap.size := by have := hg.size; simpa using this
  have hk : ∀ k, k < W.heap.size → cv.ownBlock ≠ some k → W'.heap[k]? = W.heap[k]? := fun k hk hne =>
    (hg.block k (by simp; omega) (fun e => hne e.symm)).trans (Below.heap_alloc _ _ _ hk)
  have hnew : ∀ k, k < W.heap.size → cv.ownBlock ≠ some k → cv'.ownBlock ≠ some k := fun k hk hne e => by
    rcases hv with hv | hv
    · exact hne (hv ▸ e)
    · rw [hv] at e; cases e; simp at hk; omega
  refine ⟨⟨us ++ [cc], ?_, by simp [h2], fun i hi hi' => ?_⟩, World.ownsRow_nil _ _ _ _, fun k hk' => ⟨?_, fun e => by cases e⟩, fun k hk' => by cases hk'⟩
  · rw [List.length_append]; exact ho
  · by_cases hlt : i < cls.length
    · rw [List.getElem_append_left (by omega), List.getElem_append_left hlt]
      exact (h3 i hlt (by omega)).keep fun k ⟨a, b, d, e, g⟩ => ⟨⟨a, by omega, d, hnew k b e, fun e => by cases e⟩, hk k b e⟩
    · have hi2 : i = cls.length := by simp at hi; omega
      subst hi2
      rw [List.getElem_append_right (by omega), List.getElem_append_right (by omega)]
      simp only [h2, Nat.sub_self, List.getElem_cons_zero]
      have hcc : ∀ k, cc.ownBlock = some k → k < W.heap.size ∧ cv.ownBlock ≠ some k := fun k hk' => ⟨(h4.lt k hk').2, fun e => (h5 k e).2 hk'⟩
      have hr : Ints (fun k => cc.ownBlock = some k) W cc c := by
        have := Sl.of_owns (R := fun k => cc.ownBlock = some k) h4 hc (fun k hk' => hk')
        exact this
      exact hr.keep fun k hk' => ⟨⟨(h4.lt k hk').1, by have := (hcc k hk').1; omega, h6 k hk', hnew k (hcc k hk').1 (hcc k hk').2, fun e => by cases e⟩, hk k (hcc k hk').1 (hcc k hk').2⟩
  · rcases hv with hv | hv
    · exact (h5 k (hv ▸ hk')).1
    · rw [hv] at hk'
      cases hk'
      intro hF
      have := hB _ hF
      rw [World.size_alloc] at this
      omega

/-! ### what Parse holds -/
structure PIs (w0 : World) (st : PS) (F : Nat → Prop) (W : World) (cv cc ln : Value) : Prop where
  fv : Fv w0.heap.size (.int .i64 st.vars) cv ln (.int .i64 0) (.int .i64 st.left) cc W
  old : Below w0.heap.size w0 W
  oth : ∀ k, F k → w0.heap.size + 5 ≤ k
  inv : PInv st
  acc : CAcc (w0.heap.size + 5) F W cv cc st.cls st.c
def PI (w0 : World) (st : PS) : SP := fun F W => ∃ cv cc ln, PIs w0 st F W cv cc ln
structure PXs (w0 : World) (n : Nat) (er : Int) (F : Nat → Prop) (W : World) (v0 v1 v4 v5 : Value) : Prop where
  fv : Fv w0.heap.size v0 v1 (.int .i64 n) (.int .i64 er) v4 v5 W
  old : Below w0.heap.size w0 W
  oth : ∀ k, F k → w0.heap.size + 5 ≤ k
  ne : er ≠ 0
def PX (w0 : World) (n : Nat) (er : Int) : SP := fun F W => ∃ v0 v1 v4 v5, PXs w0 n er F W v0 v1 v4 v5
theorem ext_old {w0 : World} {F : Nat → Prop} {W W' : World} (h : Below w0.heap.size w0 W) (hF : ∀ k, F k → w0.heap.size + 5 ≤ k) (he : Ext F W W') : Below w0.heap.size w0 W' :=
  ⟨he.os.trans h.os, he.tape.trans h.tape, he.output.trans h.output, Nat.le_trans h.size he.size, fun k hk => (he.block k (Nat.lt_of_lt_of_le hk h.size) (fun h' => by have := hF k h'; omega)).trans (h.block k hk)⟩
theorem fv_lt {B : Nat} {v0 v1 v2 v3 v4 v5 : Value} {W : World} (h : Fv B v0 v1 v2 v3 v4 v5 W) : B + 5 ≤ W.heap.size := by
  have := (Array.getElem?_eq_some_iff.1 h.b4).1; omega
theorem clo_PI (w0 : World) (st : PS) : Clo (PI w0 st) := by
  rintro F F' W W' ⟨cv, cc, ln, h⟩ he hF
  have hlt := fv_lt h.fv
  refine ⟨cv, cc, ln, h.fv.keep fun k h1 h2 => he.block k (by omega) (fun h' => by have := h.oth k h'; omega), ext_old h.old h.oth he, fun k hk => ?_, h.inv, h.acc.keep he.size (fun k _ h2 h3 => he.block k h2 h3) (fun k hk => (hF k hk).imp id (fun h => h.1))⟩
  rcases hF k hk with h' | h'
  · exact h.oth k h'
  · omega
theorem clo_PX (w0 : World) (n : Nat) (er : Int) : Clo (PX w0 n er) := by
  rintro F F' W W' ⟨v0, v1, v4, v5, h⟩ he hF
  have hlt := fv_lt h.fv
  refine ⟨v0, v1, v4, v5, h.fv.keep fun k h1 h2 => he.block k (by omega) (fun h' => by have := h.oth k h'; omega), ext_old h.old h.oth he, fun k hk => ?_, h.ne⟩
  rcases hF k hk with h' | h'
  · exact h.oth k h'
  · omega
/-- Stores into the five blocks. -/
structure Moved (w0 : World) (F : Nat → Prop) (W W' : World) : Prop where
  oth : ∀ k, (k < w0.heap.size ∨ w0.heap.size + 5 ≤ k) → W'.heap[k]? = W.heap[k]?
  size : W'.heap.size = W.heap.size
  os : W'.os = W.os
  tape : W'.tape = W.tape
  output : W'.output = W.output
theorem Moved.refl (w0 : World) (F : Nat → Prop) (W : World) : Moved w0 F W W := ⟨fun _ _ => rfl, rfl, rfl, rfl, rfl⟩
theorem Moved.set {w0 : World} {F : Nat → Prop} {W W' : World} (h : Moved w0 F W W') (b i : Nat) (hb : w0.heap.size ≤ b ∧ b < w0.heap.size + 5) (v : Value) : Moved w0 F W (W'.setCell ⟨b, i, none⟩ v) :=
  ⟨fun k hk => (heap_oth (by omega) v).trans (h.oth k hk), by simp [World.setCell, h.size], h.os, h.tape, h.output⟩
theorem Moved.kept {w0 : World} {F : Nat → Prop} {W W' : World} (h : Moved w0 F W W') (hF : ∀ k, F k → w0.heap.size + 5 ≤ k) : Kept F W W' := ⟨fun k hk => h.oth k (.inr (hF k hk)), by rw [h.size]; exact Nat.le_refl _, h.os, h.tape, h.output⟩
theorem Moved.old {w0 : World} {F : Nat → Prop} {W W' : World} (h : Moved w0 F W W') (ho : Below w0.heap.size w0 W) : Below w0.heap.size w0 W' :=
  ⟨h.os.trans ho.os, h.tape.trans ho.tape, h.output.trans ho.output, by rw [h.size]; exact ho.size, fun k hk => (h.oth k (.inl hk)).trans (ho.block k hk)⟩
theorem Moved.acc {w0 : World} {F : Nat → Prop} {W W' : World} {cv cc : Value} {cls : List (List Int)} {c : List Int} (h : Moved w0 F W W') (ha : CAcc (w0.heap.size + 5) F W cv cc cls c) : CAcc (w0.heap.size + 5) F W' cv cc cls c :=
  ha.keep (by rw [h.size]; exact Nat.le_refl _) (fun k hk _ _ => h.oth k (.inr hk)) (fun k hk => .inl hk)

end Go.Proofs.YtfllhhgnflpagaaDoor
