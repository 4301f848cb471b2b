/-
  Where words stand: each in its line, at its column, in increasing order. No program in sight.
-/
import Derived.Test.YtgldgkaigomceaaDoorTkPB
import Derived.Test.YtgldgkaigomceaaDoorTkL
import Derived.Lib.Split
import Derived.Lib.SplitLaws
namespace Go.Proofs.YtgldgkaigomceaaDoor
set_option linter.unusedSimpArgs false
set_option linter.unusedVariables false

/-- The lines of a text. -/
def rowsNL (s : Bs) : List Bs := (cutNL s).1 :: (if h : (cutNL s).2.2 = true then rowsNL (cutNL s).2.1 else [])
termination_by s.length
decreasing_by exact cutNL_len s h

/-- A word of line n stands in the line where its column says. -/
def OkW (n : Nat) (line : Bs) (x : Wd) : Prop := x.2.1 = n ∧ 1 ≤ x.2.2 ∧ x.1 <+: line.drop (x.2.2 - 1)
structure LtI (n : Nat) (line pre : Bs) (cur : Option (Bs × Nat)) (acc : List Wd) : Prop where
  ok : ∀ x ∈ acc, OkW n line x
  inc : acc.Pairwise (fun a b => a.2.2 < b.2.2)
  le : ∀ x ∈ acc, x.2.2 ≤ pre.length
  cur : ∀ u c, cur = some (u, c) → 1 ≤ c ∧ c ≤ pre.length ∧ pre.drop (c - 1) = u ∧ ∀ x ∈ acc, x.2.2 < c
theorem LtI.flush {n : Nat} {line pre t : Bs} {cur : Option (Bs × Nat)} {acc : List Wd} (h : LtI n line pre cur acc) (hl : line = pre ++ t) : (∀ x ∈ flushW n cur acc, OkW n line x) ∧ (flushW n cur acc).Pairwise (fun a b => a.2.2 < b.2.2) ∧ ∀ x ∈ flushW n cur acc, x.2.2 ≤ pre.length := by
  cases cur with
  | none => exact ⟨h.ok, h.inc, h.le⟩
  | some q =>
    obtain ⟨u, c⟩ := q
    obtain ⟨h1, h2, h3, h4⟩ := h.cur u c rfl
    refine ⟨fun x hx => ?_, ?_, fun x hx => ?_⟩
    · rcases List.mem_append.1 hx with hx | hx
      · exact h.ok x hx
      · obtain rfl := List.mem_singleton.1 hx
        refine ⟨rfl, h1, ?_⟩
        rw [hl, List.drop_append_of_le_length (by show c - 1 ≤ _; omega), show (c : Nat) - 1 = c - 1 from rfl]
        show u <+: pre.drop (c - 1) ++ t
        rw [h3]; exact List.prefix_append _ _
    · refine List.pairwise_append.2 ⟨h.inc, List.pairwise_singleton _ _, fun a ha b hb => ?_⟩
      obtain rfl := List.mem_singleton.1 hb
      exact h4 a ha
    · rcases List.mem_append.1 hx with hx | hx
      · exact h.le x hx
      · obtain rfl := List.mem_singleton.1 hx
        exact h2
theorem LtI.sep {n : Nat} {line pre t : Bs} {cur : Option (Bs × Nat)} {acc : List Wd} {c : UInt8} (h : LtI n line pre cur acc) (hl : line = pre ++ t) : LtI n line (pre ++ [c]) none (flushW n cur acc) := by
  obtain ⟨h1, h2, h3⟩ := h.flush hl
  exact ⟨h1, h2, fun x hx => by have := h3 x hx; simp; omega, fun u c e => by cases e⟩
theorem LtI.grow {n : Nat} {line pre : Bs} {cur : Option (Bs × Nat)} {acc : List Wd} {c : UInt8} (h : LtI n line pre cur acc) : LtI n line (pre ++ [c]) (grow c pre.length cur) acc := by
  refine ⟨h.ok, h.inc, fun x hx => by have := h.le x hx; simp; omega, ?_⟩
  cases cur with
  | none =>
    intro u k e
    simp only [Go.Proofs.YtgldgkaigomceaaDoor.grow, Option.some.injEq, Prod.mk.injEq] at e
    obtain ⟨rfl, rfl⟩ := e
    exact ⟨by omega, by simp, by simp, fun x hx => by have := h.le x hx; omega⟩
  | some q =>
    obtain ⟨t, k⟩ := q
    intro u k' e
    simp only [Go.Proofs.YtgldgkaigomceaaDoor.grow, Option.some.injEq, Prod.mk.injEq] at e
    obtain ⟨rfl, rfl⟩ := e
    obtain ⟨h1, h2, h3, h4⟩ := h.cur t k rfl
    exact ⟨h1, by simp; omega, by rw [List.drop_append_of_le_length (by omega), h3], h4⟩
theorem lt_spec (n : Nat) (line : Bs) : ∀ (t pre : Bs) (cur : Option (Bs × Nat)) (acc ws : List Wd), line = pre ++ t → LtI n line pre cur acc → lt n t pre.length cur acc = .ok ws → (∀ x ∈ ws, OkW n line x) ∧ ws.Pairwise (fun a b => a.2.2 < b.2.2)
  | [], pre, cur, acc, ws, hl, h, e => by
    obtain rfl : flushW n cur acc = ws := by simpa [lt] using e
    exact ⟨(h.flush hl).1, (h.flush hl).2.1⟩
  | c :: r, pre, cur, acc, ws, hl, h, e => by
    have hl' : line = (pre ++ [c]) ++ r := by rw [hl]; simp
    have hp : pre.length + 1 = (pre ++ [c]).length := by simp
    rw [lt_cons] at e
    split at e
    · obtain rfl : flushW n cur acc = ws := by simpa using e
      exact ⟨(h.flush hl).1, (h.flush hl).2.1⟩
    · split at e
      · rw [hp] at e
        exact lt_spec n line r (pre ++ [c]) none _ ws hl' (h.sep hl) e
      · split at e
        · cases e
        · rw [hp] at e
          exact lt_spec n line r (pre ++ [c]) _ acc ws hl' h.grow e

/-- A row of words, at its place among the lines from line n on. -/
structure RowOk (rows : List Bs) (n : Nat) (ws : List Wd) : Prop where
  ne : ws ≠ []
  at' : ∃ j, ∃ h : j < rows.length, ∀ x ∈ ws, OkW (n + j) rows[j] x
  inc : ws.Pairwise (fun a b => a.2.2 < b.2.2)
theorem RowOk.shift {r0 : Bs} {rows : List Bs} {n : Nat} {ws : List Wd} (h : RowOk rows (n + 1) ws) : RowOk (r0 :: rows) n ws := by
  obtain ⟨h1, ⟨j, hj, h2⟩, h3⟩ := h
  exact ⟨h1, ⟨j + 1, by simpa using hj, fun x hx => by have := h2 x hx; rw [show n + 1 + j = n + (j + 1) by omega] at this; simpa using this⟩, h3⟩
theorem RowOk.line {rows : List Bs} {n : Nat} {ws : List Wd} (h : RowOk rows n ws) : ∃ L, n ≤ L ∧ ∀ x ∈ ws, x.2.1 = L := by
  obtain ⟨_, ⟨j, _, h2⟩, _⟩ := h
  exact ⟨n + j, by omega, fun x hx => (h2 x hx).1⟩
def Up (a b : List Wd) : Prop := ∀ x ∈ a, ∀ y ∈ b, x.2.1 < y.2.1
theorem ls_spec : ∀ (f : Nat) (s : Bs) (n : Nat) (out o : List (List Wd)), s.length ≤ f → ls n s out = .ok o → ∃ new, o = out ++ new ∧ (∀ ws ∈ new, RowOk (rowsNL s) n ws) ∧ new.Pairwise Up := by
  intro f
  induction f with
  | zero =>
    intro s n out o hf h
    obtain rfl : s = [] := List.eq_nil_of_length_eq_zero (by omega)
    rw [ls] at h
    have : o = out := by simpa [cutNL, lt, flushW, addL] using h.symm
    exact ⟨[], by simp [this], by simp, List.Pairwise.nil⟩
  | succ f ih =>
    intro s n out o hf h
    rw [ls] at h
    cases hl : lt n (cutNL s).1 0 none [] with
    | error i => rw [hl] at h; cases h
    | ok ws =>
      rw [hl] at h
      have h0 : LtI n (cutNL s).1 [] none [] := ⟨by simp, List.Pairwise.nil, by simp, fun u c e => by cases e⟩
      obtain ⟨g1, g2⟩ := lt_spec n (cutNL s).1 (cutNL s).1 [] none [] ws rfl h0 hl
      have hr0 : ∀ (hw : ws ≠ []) (tail : List Bs), RowOk ((cutNL s).1 :: tail) n ws := fun hw tail => ⟨hw, ⟨0, by simp, fun x hx => by simpa using g1 x hx⟩, g2⟩
      by_cases hm : (cutNL s).2.2 = true
      · simp only [dif_pos hm] at h
        obtain ⟨new, e1, e2, e3⟩ := ih (cutNL s).2.1 (n + 1) (addL out ws) o (by have := cutNL_len s hm; omega) h
        have hrows : rowsNL s = (cutNL s).1 :: rowsNL (cutNL s).2.1 := by rw [rowsNL, dif_pos hm]
        rw [hrows]
        by_cases hw : ws = []
        · refine ⟨new, by rw [e1]; simp [addL, hw], fun x hx => (e2 x hx).shift, e3⟩
        · refine ⟨ws :: new, by rw [e1]; simp [addL, hw], fun x hx => ?_, ?_⟩
          · rcases List.mem_cons.1 hx with rfl | hx
            · exact hr0 hw _
            · exact (e2 x hx).shift
          · refine List.pairwise_cons.2 ⟨fun b hb x hx y hy => ?_, e3⟩
            obtain ⟨L, hL, hL2⟩ := (e2 b hb).line
            have := hL2 y hy
            have := (g1 x hx).1
            omega
      · simp only [dif_neg hm] at h
        have hrows : rowsNL s = [(cutNL s).1] := by rw [rowsNL, dif_neg hm]
        rw [hrows]
        obtain rfl : addL out ws = o := by simpa using h
        by_cases hw : ws = []
        · exact ⟨[], by simp [addL, hw], by simp, List.Pairwise.nil⟩
        · exact ⟨[ws], by simp [addL, hw], fun x hx => by obtain rfl := List.mem_singleton.1 hx; exact hr0 hw _, List.pairwise_singleton _ _⟩
theorem tok_spec (s : Bs) (o : List (List Wd)) (h : tok s = .ok o) : (∀ ws ∈ o, RowOk (rowsNL s) 1 ws) ∧ o.Pairwise Up := by
  obtain ⟨new, e1, e2, e3⟩ := ls_spec s.length s 1 [] o (Nat.le_refl _) h
  obtain rfl : o = new := by simpa using e1
  exact ⟨e2, e3⟩

theorem cutNL_eq : ∀ s : Bs, (cutNL s).2.2 = true → s = (cutNL s).1 ++ 10 :: (cutNL s).2.1
  | [], h => by simp [cutNL] at h
  | c :: r, h => by
    unfold cutNL at h ⊢
    split
    · rename_i e; subst e; rfl
    · rename_i e
      rw [if_neg e] at h
      have := cutNL_eq r h
      simp only [List.cons_append]
      rw [← this]
/-- What Split hands back. -/
theorem splitK_nl : ∀ (k : Nat) (s : Bs), s.count 10 ≤ k → Lib.splitK [10] 0 k s = rowsNL s
  | 0, s, h => by
    have hn : ∀ d ∈ s, d ≠ 10 := fun d hd e => by subst e; have := List.count_pos_iff.2 hd; omega
    rw [rowsNL, cutNL_none s hn]; rfl
  | k + 1, s, h => by
    unfold Lib.splitK
    rcases index_nl s with ⟨h1, h2⟩ | ⟨i, h1, h2⟩
    · rw [h1, rowsNL, h2]; rfl
    · rw [h1, rowsNL, h2, if_neg (by rw [beq_iff_eq]; omega)]
      have e1 : ((i : Int).toNat + 0) = i := by simp
      have e2 : ((i : Int).toNat + ([10] : Bs).length) = i + 1 := by simp
      rw [e1, e2, dif_pos rfl]
      congr 1
      refine splitK_nl k _ ?_
      have hc : s = s.take i ++ 10 :: s.drop (i + 1) := by
        have := cutNL_eq s
        rw [h2] at this
        exact this rfl
      have := congrArg (List.count 10) hc
      rw [List.count_append, List.count_cons_self] at this
      omega
end Go.Proofs.YtgldgkaigomceaaDoor
