/-
  Rows of rows under way: the outer row and the row under way are the call's own; what the outer row holds lies in blocks of its own.
-/
import Derived.Test.YtfllhhgnflpagaaDoorDmD
namespace Go.Proofs.YtfllhhgnflpagaaDoor
set_option linter.unusedSimpArgs false
set_option linter.unusedVariables false
open Go.RowKit Go.Shelf
attribute [local go_sem] Oper.semAt_some
section
variable {P : Program} (w : World)
theorem wpList_appG {R : Nat → Prop} {ops : Array Oper} {rest : List Oper} {o : Oper} {a : Act} {Q : Exit → Act → World → Prop} (hgd : o.guard = none) (s x : Operand) (t : TypeId)
    (ho : o.op = .call { callee := .builtin .append, args := #[s, x], argTypes := #[t, t] })
    (base : Nat) (e : TypeId) (z : Value) (size bytes : Nat) (ht : P.underlying t = some (.slice e))
    (hinfo : (P.info? e).map (fun i => (i.zero, i.size, i.bytes)) = some (some z, size, bytes)) (hzs : z.cells.size = size) (hpos : 0 < size)
    (v : Value) (n : Nat) (xs : List Value) (hs : a.eval s = v) (hown : w.ownsRow base e size v n xs)
    (p : Addr) (m c : Nat) (news : List Value) (hx : a.eval x = .slice (some p) m c) (hm : news.length = m * size) (hr : RowR R w (some p) news) (h1 : ∀ u ∈ news, u.oneCell' = true)
    (hsz : (n + m) * bytes ≤ 140737488355328) (h63 : n + m ≤ maxLen) (hbase : base ≤ w.heap.size)
    (h : ∀ v' w', w'.ownsRow base e size v' (n + m) (xs ++ news) → w.grownBy w' v.ownBlock → (v'.ownBlock = v.ownBlock ∨ v'.ownBlock = some w.heap.size) → wpList P ops Q rest (a.put o.dst v') w') : wpList P ops Q (o :: rest) a w := by
  refine wpList_plain hgd fun _ hK => ?_
  obtain ⟨v', w', hrun, h2, h3, h4⟩ := run_appG (P := P) w base t o.type e z size bytes ht hinfo hzs hpos v n xs hown p m c news hm hr h1 hsz h63 hbase
  unfold Oper.wp execOp
  simp only [ho, resolve, invoke, builtin, Sem.run_bind, Sem.run_pure, Result.andThen_ok, List.map_toArray, List.map_cons, List.map_nil, hs, hx, hrun]
  exact hK _ _ (h v' w' h2 h3 h4)
end


structure RAcc (B eo ei : Nat) (F : Nat → Prop) (W : World) (cv cc : Value) (cls : List (List Value)) (c : List Value) : Prop where
  lines : ∃ vs : List Value, W.ownsRow B eo 1 cv cls.length vs ∧ vs.length = cls.length ∧
    ∀ i (h : i < cls.length) (h' : i < vs.length), Sl (fun k => B ≤ k ∧ k < W.heap.size ∧ ¬ F k ∧ cv.ownBlock ≠ some k ∧ cc.ownBlock ≠ some k) W vs[i] cls[i]
  row : W.ownsRow B ei 1 cc c.length c
  ncv : ∀ k, cv.ownBlock = some k → ¬ F k ∧ cc.ownBlock ≠ some k
  ncc : ∀ k, cc.ownBlock = some k → ¬ F k
theorem RAcc.nil (B eo ei : Nat) (F : Nat → Prop) (W : World) : RAcc B eo ei F W (.slice none 0 0) (.slice none 0 0) [] [] :=
  ⟨⟨[], World.ownsRow_nil _ _ _ _, rfl, fun i h => absurd h (by simp)⟩, World.ownsRow_nil _ _ _ _, fun k h => (by cases h), fun k h => (by cases h)⟩
theorem RAcc.keep {B eo ei : Nat} {F F' : Nat → Prop} {W W' : World} {cv cc : Value} {cls : List (List Value)} {c : List Value} (h : RAcc B eo ei F W cv cc cls c) (hs : W.heap.size ≤ W'.heap.size)
    (hf : ∀ k, B ≤ k → k < W.heap.size → ¬ F k → W'.heap[k]? = W.heap[k]?) (hF : ∀ k, F' k → F k ∨ W.heap.size ≤ k) : RAcc B eo ei F' W' cv cc cls c := by
  obtain ⟨⟨vs, h1, h2, h3⟩, h4, h5, h6⟩ := h
  have nF : ∀ k, k < W.heap.size → ¬ F k → ¬ F' k := fun k hk hn h' => by
    rcases hF k h' with h' | h'
    · exact hn h'
    · omega
  refine ⟨⟨vs, owns_keepG h1 fun j hj => hf j (h1.lt j hj).1 (h1.lt j hj).2 (h5 j hj).1, h2, fun i hi hi' => (h3 i hi hi').keep fun k ⟨a, b, d, e, g⟩ => ⟨⟨a, Nat.lt_of_lt_of_le b hs, nF k b d, e, g⟩, hf k a b d⟩⟩,
    owns_keepG h4 fun j hj => hf j (h4.lt j hj).1 (h4.lt j hj).2 (h6 j hj), fun k hk => ⟨nF k (h1.lt k hk).2 (h5 k hk).1, (h5 k hk).2⟩, fun k hk => nF k (h4.lt k hk).2 (h6 k hk)⟩
/-- A number is appended. -/
theorem RAcc.push {B eo ei : Nat} {F : Nat → Prop} {W W' : World} {cv cc cc' : Value} {cls : List (List Value)} {c : List Value} {x : Value} {o : Obj} (h : RAcc B eo ei F W cv cc cls c) (hB : Bnd F W)
    (hg : (W.alloc o).grownBy W' cc.ownBlock) (ho : W'.ownsRow B ei 1 cc' (c.length + 1) (c ++ [x])) (hv : cc'.ownBlock = cc.ownBlock ∨ cc'.ownBlock = some (W.alloc o).heap.size) :
    RAcc B eo ei F W' cv cc' cls (c ++ [x]) := by
  obtain ⟨⟨vs, h1, h2, h3⟩, h4, h5, h6⟩ := h
  have hsz : W.heap.size + 1 ≤ W'.heap.size := by have := hg.size; simpa using this
  have hk : ∀ k, k < W.heap.size → cc.ownBlock ≠ some k → W'.heap[k]? = W.heap[k]? := fun k hk hne =>
    (hg.block k (by simp; omega) (fun e => hne e.symm)).trans (Below.heap_alloc _ _ _ hk)
  have hnew : ∀ k, k < W.heap.size → cc.ownBlock ≠ some k → cc'.ownBlock ≠ some k := fun k hk hne e => by
    rcases hv with hv | hv
    · exact hne (hv ▸ e)
    · rw [hv] at e; cases e; simp at hk; omega
  refine ⟨⟨vs, owns_keepG h1 fun j hj => hk j (h1.lt j hj).2 (h5 j hj).2, h2, fun i hi hi' => (h3 i hi hi').keep fun k ⟨a, b, d, e, g⟩ => ⟨⟨a, by omega, d, e, hnew k b g⟩, hk k b g⟩⟩, ?_, fun k hk' => ⟨(h5 k hk').1, hnew k (h1.lt k hk').2 (h5 k hk').2⟩, fun k hk' => ?_⟩
  · rw [List.length_append]; exact ho
  · rcases hv with hv | hv
    · exact h6 k (hv ▸ hk')
    · rw [hv] at hk'
      cases hk'
      intro hF
      have := hB _ hF
      rw [World.size_alloc] at this
      omega
/-- A clause ends. -/
theorem RAcc.line {B eo ei : Nat} {F : Nat → Prop} {W W' : World} {cv cv' cc : Value} {cls : List (List Value)} {c : List Value} {o : Obj} (h : RAcc B eo ei F W cv cc cls c) (hB : Bnd F W) (hc : c.length ≤ 140737488355328)
    (hg : (W.alloc o).grownBy W' cv.ownBlock) {us : List Value} (hus : W.ownsRow B eo 1 cv cls.length us) (ho : W'.ownsRow B eo 1 cv' (cls.length + 1) (us ++ [cc])) (hv : cv'.ownBlock = cv.ownBlock ∨ cv'.ownBlock = some (W.alloc o).heap.size) :
    RAcc B eo ei F W' cv' (.slice none 0 0) (cls ++ [c]) [] := by
  obtain ⟨⟨vs, h1, h2, h3⟩, h4, h5, h6⟩ := h
  have e1 : us = vs := by
    rcases h1.2 with ⟨a, b⟩ | ⟨g, cap, cur, a, b, d, e, f, i, j⟩
    · have h1' := h1.1; have h2' := hus.1
      rw [b] at h1' h2'
      simp at h1' h2'
      rw [h1', h2']
    · rcases hus.2 with ⟨a', b'⟩ | ⟨g', cap', cur', a', b', d', e', f', i', j'⟩
      · rw [a] at a'; cases a'
      · rw [a] at a'; cases a'
        rw [d] at d'; cases d'
        rw [← j, ← j']
  subst e1
  have hsz : W.heap.size + 1 ≤ W'.heap.size := by have := hg.size; simpa using this
  have hk : ∀ k, k < W.heap.size → cv.ownBlock ≠ some k → W'.heap[k]? = W.heap[k]? := fun k hk hne =>
    (hg.block k (by simp; omega) (fun e => hne e.symm)).trans (Below.heap_alloc _ _ _ hk)
  have hnew : ∀ k, k < W.heap.size → cv.ownBlock ≠ some k → cv'.ownBlock ≠ some k := fun k hk hne e => by
    rcases hv with hv | hv
    · exact hne (hv ▸ e)
    · rw [hv] at e; cases e; simp at hk; omega
  refine ⟨⟨us ++ [cc], ?_, by simp [h2], fun i hi hi' => ?_⟩, World.ownsRow_nil _ _ _ _, fun k hk' => ⟨?_, fun e => by cases e⟩, fun k hk' => by cases hk'⟩
  · rw [List.length_append]; exact ho
  · by_cases hlt : i < cls.length
    · rw [List.getElem_append_left (by omega), List.getElem_append_left hlt]
      exact (h3 i hlt (by omega)).keep fun k ⟨a, b, d, e, g⟩ => ⟨⟨a, by omega, d, hnew k b e, fun e => by cases e⟩, hk k b e⟩
    · have hi2 : i = cls.length := by simp at hi; omega
      subst hi2
      rw [List.getElem_append_right (by omega), List.getElem_append_right (by omega)]
      simp only [h2, Nat.sub_self, List.getElem_cons_zero]
      have hcc : ∀ k, cc.ownBlock = some k → k < W.heap.size ∧ cv.ownBlock ≠ some k := fun k hk' => ⟨(h4.lt k hk').2, fun e => (h5 k e).2 hk'⟩
      have hr : Sl (fun k => cc.ownBlock = some k) W cc c := by
        have := Sl.of_owns (R := fun k => cc.ownBlock = some k) h4 hc (fun k hk' => hk')
        exact this
      exact hr.keep fun k hk' => ⟨⟨(h4.lt k hk').1, by have := (hcc k hk').1; omega, h6 k hk', hnew k (hcc k hk').1 (hcc k hk').2, fun e => by cases e⟩, hk k (hcc k hk').1 (hcc k hk').2⟩
  · rcases hv with hv | hv
    · exact (h5 k (hv ▸ hk')).1
    · rw [hv] at hk'
      cases hk'
      intro hF
      have := hB _ hF
      rw [World.size_alloc] at this
      omega


/-- What is read in the end. -/
theorem RAcc.sl {B eo ei : Nat} {F : Nat → Prop} {W : World} {cv cc : Value} {cls : List (List Value)} {c : List Value} (h : RAcc B eo ei F W cv cc cls c) (hl : cls.length ≤ 140737488355328) :
    ∃ vs : List Value, Sl (fun k => B ≤ k ∧ k < W.heap.size ∧ ¬ F k) W cv vs ∧ vs.length = cls.length ∧ ∀ i (h : i < cls.length) (h' : i < vs.length), Sl (fun k => B ≤ k ∧ k < W.heap.size ∧ ¬ F k) W vs[i] cls[i] := by
  obtain ⟨⟨vs, h1, h2, h3⟩, h4, h5, h6⟩ := h
  exact ⟨vs, Sl.of_owns h1 hl (fun k hk => ⟨(h1.lt k hk).1, (h1.lt k hk).2, (h5 k hk).1⟩), h2, fun i hi hi' => (h3 i hi hi').keep fun k ⟨a, b, d, _, _⟩ => ⟨⟨a, b, d⟩, rfl⟩⟩
end Go.Proofs.YtfllhhgnflpagaaDoor
