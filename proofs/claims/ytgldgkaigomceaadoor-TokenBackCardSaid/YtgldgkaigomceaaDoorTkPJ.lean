/-
  Words of two texts that are joined by a line feed, plainly. No program in sight.
-/
import Derived.Test.YtgldgkaigomceaaDoorTkP
namespace Go.Proofs.YtgldgkaigomceaaDoor
set_option linter.unusedSimpArgs false
set_option linter.unusedVariables false

theorem ls_step (n : Nat) (t : Bs) (out : List (List Wd)) : ls n t out =
    match lt n (cutNL t).1 0 none [] with
    | .error i => .error (n, i + 1)
    | .ok ws => if (cutNL t).2.2 = true then ls (n + 1) (cutNL t).2.1 (addL out ws) else .ok (addL out ws) := by
  conv => lhs; unfold ls
  cases lt n (cutNL t).1 0 none [] with
  | error i => rfl
  | ok ws => rfl

/-- A word further down. -/
def dnW (d : Nat) (x : Wd) : Wd := (x.1, x.2.1 + d, x.2.2)
def dnL (d : Nat) (o : List (List Wd)) : List (List Wd) := o.map (List.map (dnW d))

theorem flushW_dn (n d : Nat) (cur : Option (Bs × Nat)) (acc : List Wd) : flushW (n + d) cur (acc.map (dnW d)) = (flushW n cur acc).map (dnW d) := by
  cases cur with
  | none => rfl
  | some q => obtain ⟨t, c⟩ := q; simp [flushW, dnW]

theorem lt_dn (n d : Nat) : ∀ (s : Bs) (i : Nat) (cur : Option (Bs × Nat)) (acc : List Wd), lt (n + d) s i cur (acc.map (dnW d)) = (match lt n s i cur acc with | .error j => .error j | .ok ws => .ok (ws.map (dnW d)))
  | [], i, cur, acc => by unfold lt; rw [flushW_dn]
  | c :: r, i, cur, acc => by
    unfold lt
    by_cases h1 : c = 35
    · simp only [if_pos h1, flushW_dn]
    · simp only [if_neg h1]
      by_cases h2 : sepB c = true
      · simp only [if_pos h2]
        rw [flushW_dn, lt_dn n d r]
      · simp only [if_neg h2]
        by_cases h3 : badB c = true
        · simp only [if_pos h3]
        · simp only [if_neg h3]
          rw [lt_dn n d r]

theorem addL_dn (d : Nat) (o out : List (List Wd)) (ws : List Wd) : addL (o ++ dnL d out) (ws.map (dnW d)) = o ++ dnL d (addL out ws) := by
  unfold addL
  by_cases h : ws = []
  · subst h; rfl
  · rw [if_neg h, if_neg (by simpa using h)]; simp [dnL]

theorem ls_dn (d : Nat) (o : List (List Wd)) : ∀ (k n : Nat) (s : Bs) (out : List (List Wd)), s.length ≤ k → ls (n + d) s (o ++ dnL d out) = (match ls n s out with | .error (L, C) => .error (L + d, C) | .ok r => .ok (o ++ dnL d r))
  | k, n, s, out, hk => by
    rw [ls_step (n + d), ls_step n]
    have := lt_dn n d (cutNL s).1 0 none []
    rw [List.map_nil] at this
    rw [this]
    cases lt n (cutNL s).1 0 none [] with
    | error j => rfl
    | ok ws =>
      simp only
      rw [addL_dn]
      by_cases hm : (cutNL s).2.2 = true
      · have hl := cutNL_len s hm
        rw [if_pos hm, if_pos hm]
        match k, hk with
        | 0, hk => omega
        | k + 1, hk =>
          rw [show n + d + 1 = n + 1 + d by omega]
          exact ls_dn d o k (n + 1) _ _ (by omega)
      · rw [if_neg hm, if_neg hm]

theorem cutNL_app (t : Bs) : ∀ s : Bs, ((cutNL s).2.2 = true → cutNL (s ++ 10 :: t) = ((cutNL s).1, (cutNL s).2.1 ++ 10 :: t, true) ∧ s.count 10 = 1 + (cutNL s).2.1.count 10) ∧ ((cutNL s).2.2 = false → cutNL (s ++ 10 :: t) = ((cutNL s).1, t, true) ∧ s.count 10 = 0)
  | [] => ⟨fun h => by simp [cutNL] at h, fun _ => ⟨by simp [cutNL], rfl⟩⟩
  | c :: r => by
    by_cases h : c = 10
    · subst h
      refine ⟨fun _ => ⟨by simp [cutNL], by simp [cutNL]; omega⟩, fun h => by simp [cutNL] at h⟩
    · obtain ⟨h1, h2⟩ := cutNL_app t r
      refine ⟨fun hm => ?_, fun hm => ?_⟩
      · simp only [cutNL, if_neg h] at hm
        obtain ⟨e1, e2⟩ := h1 hm
        refine ⟨by simp only [List.cons_append, cutNL, if_neg h, e1], ?_⟩
        rw [List.count_cons_of_ne (by simpa using h), e2]
        simp only [cutNL, if_neg h]
      · simp only [cutNL, if_neg h] at hm
        obtain ⟨e1, e2⟩ := h2 hm
        refine ⟨by simp only [List.cons_append, cutNL, if_neg h, e1], ?_⟩
        rw [List.count_cons_of_ne (by simpa using h), e2]

theorem ls_app (t : Bs) : ∀ (k n : Nat) (s : Bs) (out : List (List Wd)), s.length ≤ k → ls n (s ++ 10 :: t) out = (match ls n s out with | .error e => .error e | .ok o => ls (n + (1 + s.count 10)) t o)
  | k, n, s, out, hk => by
    rw [ls_step n (s ++ 10 :: t), ls_step n s]
    obtain ⟨h1, h2⟩ := cutNL_app t s
    by_cases hm : (cutNL s).2.2 = true
    · obtain ⟨e1, e2⟩ := h1 hm
      have hl := cutNL_len s hm
      rw [e1]
      simp only [if_pos hm]
      cases lt n (cutNL s).1 0 none [] with
      | error j => rfl
      | ok ws =>
        simp only [if_true]
        match k, hk with
        | 0, hk => omega
        | k + 1, hk =>
          rw [ls_app t k (n + 1) _ _ (by omega), e2, show n + 1 + (1 + List.count 10 (cutNL s).2.1) = n + (1 + (1 + List.count 10 (cutNL s).2.1)) by omega]
    · obtain ⟨e1, e2⟩ := h2 (by simpa using hm)
      rw [e1]
      simp only [if_neg hm]
      cases lt n (cutNL s).1 0 none [] with
      | error j => rfl
      | ok ws => simp only [if_true]; rw [e2]

theorem tok_join (s t : Bs) : tok (s ++ 10 :: t) = (match tok s with | .error e => .error e | .ok o => match tok t with | .error (L, C) => .error (L + (1 + s.count 10), C) | .ok r => .ok (o ++ dnL (1 + s.count 10) r)) := by
  unfold tok
  rw [ls_app t s.length 1 s [] (Nat.le_refl _)]
  cases ls 1 s [] with
  | error e => rfl
  | ok o =>
    have := ls_dn (1 + s.count 10) o t.length 1 t [] (Nat.le_refl _)
    simp only [dnL, List.map_nil, List.append_nil] at this
    exact this

/-- The numbers of lines are small. -/
theorem ls_err (m : Nat) : ∀ (k n : Nat) (s : Bs) (out : List (List Wd)) (L C : Nat), s.length ≤ k → n + s.length ≤ m → ls n s out = .error (L, C) → L ≤ m
  | k, n, s, out, L, C, hk, hn, h => by
    rw [ls_step] at h
    cases hl : lt n (cutNL s).1 0 none [] with
    | error j => rw [hl] at h; cases h; omega
    | ok ws =>
      rw [hl] at h
      simp only at h
      by_cases hm : (cutNL s).2.2 = true
      · have hle := cutNL_len s hm
        rw [if_pos hm] at h
        match k, hk with
        | 0, hk => omega
        | k + 1, hk => exact ls_err m k (n + 1) _ _ L C (by omega) (by omega) h
      · rw [if_neg hm] at h; cases h

theorem flushW_mem {n : Nat} {cur : Option (Bs × Nat)} {acc : List Wd} {x : Wd} (h : x ∈ flushW n cur acc) : x ∈ acc ∨ x.2.1 = n := by
  cases cur with
  | none => exact .inl h
  | some q =>
    obtain ⟨t, c⟩ := q
    rcases List.mem_append.1 h with h | h
    · exact .inl h
    · rw [List.mem_singleton] at h; subst h; exact .inr rfl
theorem lt_mem (n : Nat) : ∀ (s : Bs) (i : Nat) (cur : Option (Bs × Nat)) (acc ws : List Wd), lt n s i cur acc = .ok ws → ∀ x ∈ ws, x ∈ acc ∨ x.2.1 = n
  | [], i, cur, acc, ws, h => by
    unfold lt at h; cases h
    exact fun x hx => flushW_mem hx
  | c :: r, i, cur, acc, ws, h => by
    unfold lt at h
    by_cases h1 : c = 35
    · rw [if_pos h1] at h; cases h
      exact fun x hx => flushW_mem hx
    · rw [if_neg h1] at h
      by_cases h2 : sepB c = true
      · rw [if_pos h2] at h
        intro x hx
        rcases lt_mem n r _ _ _ ws h x hx with h | h
        · exact flushW_mem h
        · exact .inr h
      · rw [if_neg h2] at h
        by_cases h3 : badB c = true
        · rw [if_pos h3] at h; cases h
        · rw [if_neg h3] at h
          exact lt_mem n r _ _ _ ws h
theorem ls_mem (m : Nat) : ∀ (k n : Nat) (s : Bs) (out r : List (List Wd)), s.length ≤ k → n + s.length ≤ m → (∀ ws ∈ out, ∀ x ∈ ws, x.2.1 ≤ m) → ls n s out = .ok r → ∀ ws ∈ r, ∀ x ∈ ws, x.2.1 ≤ m
  | k, n, s, out, r, hk, hn, ho, h => by
    rw [ls_step] at h
    cases hl : lt n (cutNL s).1 0 none [] with
    | error j => rw [hl] at h; cases h
    | ok ws =>
      rw [hl] at h
      simp only at h
      have hadd : ∀ vs ∈ addL out ws, ∀ x ∈ vs, x.2.1 ≤ m := by
        intro vs hv x hx
        unfold addL at hv
        split at hv
        · exact ho vs hv x hx
        · rcases List.mem_append.1 hv with hv | hv
          · exact ho vs hv x hx
          · rw [List.mem_singleton] at hv; subst hv
            rcases lt_mem n _ _ _ _ _ hl x hx with h | h
            · cases h
            · omega
      by_cases hm : (cutNL s).2.2 = true
      · have hle := cutNL_len s hm
        rw [if_pos hm] at h
        match k, hk with
        | 0, hk => omega
        | k + 1, hk => exact ls_mem m k (n + 1) _ _ r (by omega) (by omega) hadd h
      · rw [if_neg hm] at h; cases h
        exact hadd

theorem ls_len (m : Nat) : ∀ (k n : Nat) (s : Bs) (out r : List (List Wd)), s.length ≤ k → out.length + 1 + s.length ≤ m → ls n s out = .ok r → r.length ≤ m
  | k, n, s, out, r, hk, hn, h => by
    rw [ls_step] at h
    cases hl : lt n (cutNL s).1 0 none [] with
    | error j => rw [hl] at h; cases h
    | ok ws =>
      rw [hl] at h
      simp only at h
      have hadd : (addL out ws).length ≤ out.length + 1 := by unfold addL; split <;> simp
      by_cases hm : (cutNL s).2.2 = true
      · have hle := cutNL_len s hm
        rw [if_pos hm] at h
        match k, hk with
        | 0, hk => omega
        | k + 1, hk => exact ls_len m k (n + 1) _ _ r (by omega) (by omega) h
      · rw [if_neg hm] at h; cases h
        omega
theorem tok_len (s : Bs) (r : List (List Wd)) (h : tok s = .ok r) {m : Nat} (hm : s.length + 1 ≤ m) : r.length ≤ m := ls_len m s.length 1 s [] r (Nat.le_refl _) (by simp; omega) h

/-- Lines on the way down: those before line i, and the words of line i before word j, are down. -/
def part (d i j : Nat) (o : List (List Wd)) : List (List Wd) := o.mapIdx fun i' ws => ws.mapIdx fun k' x => if i' < i ∨ (i' = i ∧ k' < j) then dnW d x else x
theorem part_len (d i j : Nat) (o : List (List Wd)) : (part d i j o).length = o.length := by simp [part]
theorem part_at (d i j : Nat) (o : List (List Wd)) (a : Nat) (h : a < o.length) : (part d i j o)[a]'(by rw [part_len]; exact h) = o[a].mapIdx fun k' x => if a < i ∨ (a = i ∧ k' < j) then dnW d x else x := by simp [part]
theorem part_zero (d : Nat) (o : List (List Wd)) : part d 0 0 o = o := by
  apply List.ext_getElem (by rw [part_len])
  intro a h1 h2
  rw [part_at _ _ _ _ _ h2]
  apply List.ext_getElem (by simp)
  intro b h3 h4
  simp
theorem part_all (d : Nat) (o : List (List Wd)) : part d o.length 0 o = dnL d o := by
  apply List.ext_getElem (by rw [part_len]; simp [dnL])
  intro a h1 h2
  have ha : a < o.length := by rw [part_len] at h1; exact h1
  rw [part_at _ _ _ _ _ ha]
  apply List.ext_getElem (by simp [dnL])
  intro b h3 h4
  simp [dnL, ha]
theorem part_next (d i : Nat) (o : List (List Wd)) (hi : i < o.length) : part d i o[i].length o = part d (i + 1) 0 o := by
  apply List.ext_getElem (by rw [part_len, part_len])
  intro a h1 h2
  have ha : a < o.length := by rw [part_len] at h1; exact h1
  rw [part_at _ _ _ _ _ ha, part_at _ _ _ _ _ ha]
  apply List.ext_getElem (by simp)
  intro b h3 h4
  simp only [List.getElem_mapIdx]
  have hb : b < o[a].length := by simpa using h3
  by_cases h : a = i
  · subst h
    rw [if_pos (by omega), if_pos (by omega)]
  · by_cases h' : a < i
    · rw [if_pos (by omega), if_pos (by omega)]
    · rw [if_neg (by omega), if_neg (by omega)]
theorem part_row (d i j : Nat) (o : List (List Wd)) (hi : i < o.length) : ((part d i j o)[i]'(by rw [part_len]; exact hi)).length = o[i].length := by rw [part_at _ _ _ _ _ hi]; simp
theorem part_word (d i j : Nat) (o : List (List Wd)) (hi : i < o.length) (hj : j < o[i].length) : ((part d i j o)[i]'(by rw [part_len]; exact hi))[j]'(by rw [part_row _ _ _ _ hi]; exact hj) = o[i][j] := by
  simp only [part_at _ _ _ _ _ hi, List.getElem_mapIdx]
  rw [if_neg (by omega)]
theorem part_set (d i j : Nat) (o : List (List Wd)) (hi : i < o.length) (hj : j < o[i].length) :
    (part d i j o).set i (((part d i j o)[i]'(by rw [part_len]; exact hi)).set j (dnW d o[i][j])) = part d i (j + 1) o := by
  apply List.ext_getElem (by rw [List.length_set, part_len, part_len])
  intro a h1 h2
  have ha : a < o.length := by rw [part_len] at h2; exact h2
  rw [part_at _ _ _ _ _ ha]
  by_cases h : i = a
  · subst h
    rw [List.getElem_set_self]
    apply List.ext_getElem (by rw [List.length_set, part_row _ _ _ _ hi]; simp)
    intro b h3 h4
    simp only [List.getElem_mapIdx]
    have hb : b < o[i].length := by simpa using h4
    by_cases hbj : j = b
    · subst hbj
      rw [List.getElem_set_self, if_pos (.inr ⟨trivial, Nat.lt_succ_self _⟩)]
    · rw [List.getElem_set_ne hbj]
      simp only [part_at _ _ _ _ _ hi, List.getElem_mapIdx]
      by_cases hlt : b < j
      · rw [if_pos (.inr ⟨trivial, hlt⟩), if_pos (.inr ⟨trivial, Nat.lt_succ_of_lt hlt⟩)]
      · rw [if_neg (by rintro (h | ⟨_, h⟩) <;> omega), if_neg (by rintro (h | ⟨_, h⟩) <;> omega)]
  · rw [List.getElem_set_ne h, part_at _ _ _ _ _ ha]
    apply List.ext_getElem (by simp)
    intro b h3 h4
    simp only [List.getElem_mapIdx]
    by_cases hlt : a < i
    · rw [if_pos (by omega), if_pos (by omega)]
    · rw [if_neg (by omega), if_neg (by omega)]
end Go.Proofs.YtgldgkaigomceaaDoor
