/-
  What is read is valid, and its text short; where errors lie. Plain.
-/
import Derived.Test.YtfllhhgnflpagaaDoorDmBk
namespace Go.Proofs.YtfllhhgnflpagaaDoor
set_option linter.unusedSimpArgs false
set_option linter.unusedVariables false

/-! ### errors -/
theorem stepP_err {st : PS} {l : List Bs} {e : Int} (h : stepP st l = .error e) : e ≠ 0 := by
  unfold stepP at h
  split at h
  · split at h
    · cases h
    · rename_i h0; cases h; exact h0
  · split at h
    · cases h; decide
    · split at h
      · cases h; decide
      · split at h
        · cases h; decide
        · split at h
          · cases h
          · split at h
            · cases h; decide
            · cases h
theorem stepW_err : ∀ (l : List Bs) (st : PS) {e : Int}, stepW st l = .error e → e ≠ 0
  | [], st, e, h => by cases h
  | x :: r, st, e, h => by
    rw [stepW_cons] at h
    cases hs : stepP st [x] with
    | error e' => rw [hs] at h; cases h; exact stepP_err hs
    | ok s => rw [hs] at h; exact stepW_err r s h
theorem runF_err : ∀ (ls : List (List Bs)) (k : Nat) (st : PS) (hd : Bool) {n : Nat} {e : Int}, runF k st hd ls = .error (n, e) → e ≠ 0 ∧ k ≤ n ∧ n < k + ls.length
  | [], k, st, hd, n, e, h => by cases h
  | x :: r, k, st, hd, n, e, h => by
    have rest : ∀ {k' st' hd'}, runF k' st' hd' r = .error (n, e) → k' = k + 1 → e ≠ 0 ∧ k ≤ n ∧ n < k + (x :: r).length := fun h2 hk => by
      have := runF_err r _ _ _ h2
      simp only [List.length_cons]
      exact ⟨this.1, by omega, by omega⟩
    cases hs : skp x with
    | true => rw [runF_skip hs] at h; exact rest h rfl
    | false =>
      cases hd with
      | true =>
        rw [runF_head hs] at h
        cases hp : stepP st x with
        | error e' => rw [hp] at h; cases h; exact ⟨stepP_err hp, Nat.le_refl _, by simp⟩
        | ok s => rw [hp] at h; exact rest h rfl
      | false =>
        rw [runF_words hs] at h
        cases hp : stepW st x with
        | error e' => rw [hp] at h; cases h; exact ⟨stepW_err x st hp, Nat.le_refl _, by simp⟩
        | ok s => rw [hp] at h; exact rest h rfl
def cntNL (s : Bs) : Nat := s.countP (· == 10)
theorem cutNL_cnt : ∀ s : Bs, (cutNL s).2 ≠ [] → cntNL s = cntNL (cutNL s).2 + 1
  | [], h => absurd rfl h
  | c :: r, h => by
    unfold cutNL at h ⊢
    by_cases hc : c = 10
    · rw [if_pos hc] at h ⊢
      subst hc
      simp [cntNL]
    · rw [if_neg hc] at h ⊢
      have := cutNL_cnt r h
      unfold cntNL at this ⊢
      rw [List.countP_cons, this]
      simp [hc]
theorem linesM_cnt (s : Bs) : (linesM s).length ≤ cntNL s + 1 := by
  induction s using linesM.induct with
  | case1 => rw [linesM_nil]; simp
  | case2 s h ih =>
    rw [linesM_cons h, List.length_cons]
    by_cases h2 : (cutNL s).2 = []
    · rw [h2, linesM_nil]; simp
    · have := cutNL_cnt s h2
      omega
theorem parse_bad {s : Bs} (hs : s.length ≤ 65536) {n : Int} {cls : List (List Int)} {ln er : Int} (h : parseM s = ((n, cls), ln, er)) (he : er ≠ 0) : n = 0 ∧ cls = [] ∧ 1 ≤ ln ∧ ln ≤ (cntNL s : Int) + 2 := by
  rw [parseM_F (by omega), lr_lines] at h
  unfold parseF at h
  have hc := linesM_cnt s
  cases hr : runF 1 ps0 true ((linesM s).map fields) with
  | error q =>
    obtain ⟨k, e⟩ := q
    rw [hr] at h
    simp only [Prod.mk.injEq] at h
    obtain ⟨⟨rfl, rfl⟩, rfl, rfl⟩ := h
    have := runF_err _ _ _ _ hr
    rw [List.length_map] at this
    exact ⟨rfl, rfl, by omega, by omega⟩
  | ok q =>
    obtain ⟨st, hd⟩ := q
    rw [hr] at h
    simp only at h
    by_cases hl : st.left ≠ 0
    · rw [if_pos hl] at h
      simp only [Prod.mk.injEq, List.length_map] at h
      obtain ⟨⟨rfl, rfl⟩, rfl, rfl⟩ := h
      exact ⟨rfl, rfl, by omega, by omega⟩
    · rw [if_neg hl] at h
      simp only [Prod.mk.injEq] at h
      exact absurd h.2.2.symm he

/-! ### what is read -/
def wrds (l : List (List Int)) : Nat := (l.map fun c => c.length + 1).sum
theorem wrds_snoc (l : List (List Int)) (c : List Int) : wrds (l ++ [c]) = wrds l + (c.length + 1) := by simp [wrds]
/-- What a reader's state may hold. -/
structure VInv (st : PS) : Prop where
  inv : PInv st
  cls : ∀ c ∈ st.cls, LitsOk st.vars c
  c : ∀ a ∈ st.c, a ≠ 0 ∧ (a.natAbs : Int) ≤ st.vars
def wSt (st : PS) : Nat := wrds st.cls + st.c.length
theorem stepP_v {st st' : PS} {l : List Bs} (h : VInv st) (hs : stepP st l = .ok st') : VInv st' ∧ wSt st' ≤ wSt st + 1 := by
  have hi := h.inv.step hs
  unfold stepP at hs
  split at hs
  · rename_i hneg
    obtain ⟨e1, e2⟩ := h.inv.neg hneg
    split at hs
    · cases hs
      refine ⟨⟨hi, fun c hc => ?_, fun a ha => ?_⟩, by show wSt _ ≤ _; unfold wSt; simp⟩
      · have hc' : c ∈ st.cls := hc
        rw [e1] at hc'; cases hc'
      · have ha' : a ∈ st.c := ha
        rw [e2] at ha'; cases ha'
    · cases hs
  · split at hs
    · cases hs
    · rename_i v hv
      split at hs
      · cases hs
      · split at hs
        · cases hs
        · rename_i hr
          split at hs
          · cases hs
            refine ⟨⟨hi, fun c hc => ?_, fun a ha => by cases ha⟩, ?_⟩
            · rcases List.mem_append.1 hc with hc | hc
              · exact h.cls c hc
              · rw [List.mem_singleton.1 hc]; exact ⟨h.inv.c, h.c⟩
            · show wrds (st.cls ++ [st.c]) + ([] : List Int).length ≤ wrds st.cls + st.c.length + 1
              rw [wrds_snoc]; simp; omega
          · rename_i hz
            split at hs
            · cases hs
            · cases hs
              refine ⟨⟨hi, h.cls, fun a ha => ?_⟩, ?_⟩
              · rcases List.mem_append.1 ha with ha | ha
                · exact h.c a ha
                · rw [List.mem_singleton.1 ha]; exact ⟨hz, by show _ ≤ st.vars; omega⟩
              · show wrds st.cls + (st.c ++ [v]).length ≤ wrds st.cls + st.c.length + 1
                simp; omega
theorem stepW_v : ∀ (l : List Bs) {st st' : PS}, VInv st → stepW st l = .ok st' → VInv st' ∧ wSt st' ≤ wSt st + l.length
  | [], st, st', h, hs => by cases hs; exact ⟨h, Nat.le_refl _⟩
  | x :: r, st, st', h, hs => by
    rw [stepW_cons] at hs
    cases hp : stepP st [x] with
    | error e => rw [hp] at hs; cases hs
    | ok s =>
      rw [hp] at hs
      obtain ⟨h1, h2⟩ := stepP_v h hp
      obtain ⟨h3, h4⟩ := stepW_v r h1 hs
      exact ⟨h3, by simp; omega⟩
theorem runF_v : ∀ (ls : List (List Bs)) (k : Nat) {st st' : PS} {hd hd' : Bool}, VInv st → runF k st hd ls = .ok (st', hd') → VInv st' ∧ wSt st' ≤ wSt st + (ls.map List.length).sum
  | [], k, st, st', hd, hd', h, hs => by cases hs; exact ⟨h, Nat.le_refl _⟩
  | x :: r, k, st, st', hd, hd', h, hs => by
    have rest : ∀ {k' s hd2}, VInv s → wSt s ≤ wSt st + x.length → runF k' s hd2 r = .ok (st', hd') → VInv st' ∧ wSt st' ≤ wSt st + ((x :: r).map List.length).sum := fun h1 h2 h3 => by
      obtain ⟨h4, h5⟩ := runF_v r _ h1 h3
      exact ⟨h4, by simp; omega⟩
    cases hk : skp x with
    | true => rw [runF_skip hk] at hs; exact rest h (by omega) hs
    | false =>
      have hx : 1 ≤ x.length := by
        cases x with
        | nil => cases hk
        | cons a t => simp
      cases hd with
      | true =>
        rw [runF_head hk] at hs
        cases hp : stepP st x with
        | error e => rw [hp] at hs; cases hs
        | ok s =>
          rw [hp] at hs
          obtain ⟨h1, h2⟩ := stepP_v h hp
          exact rest h1 (by omega) hs
      | false =>
        rw [runF_words hk] at hs
        cases hp : stepW st x with
        | error e => rw [hp] at hs; cases hs
        | ok s =>
          rw [hp] at hs
          obtain ⟨h1, h2⟩ := stepW_v x h hp
          exact rest h1 h2 hs
theorem fldF_cnt : ∀ (s cur : Bs) (acc : List Bs), (fldF s cur acc).length ≤ acc.length + cur.length + s.length
  | [], cur, acc => by
    unfold fldF flushB
    split
    · simp
    · rename_i h
      have := List.length_pos_iff.2 h
      simp; omega
  | b :: t, cur, acc => by
    rw [fldF]
    split
    · refine Nat.le_trans (fldF_cnt t [] _) ?_
      unfold flushB
      split
      · simp; omega
      · rename_i h
        have := List.length_pos_iff.2 h
        simp; omega
    · refine Nat.le_trans (fldF_cnt t _ _) ?_
      simp; omega
theorem cutNL_sum : ∀ s : Bs, (cutNL s).1.length + (cutNL s).2.length ≤ s.length
  | [] => by simp [cutNL]
  | c :: r => by
    have := cutNL_sum r
    unfold cutNL
    split
    · simp
    · simp; omega
theorem lines_sum (s : Bs) : (((linesM s).map fields).map List.length).sum ≤ s.length := by
  induction s using linesM.induct with
  | case1 => rw [linesM_nil]; simp
  | case2 s h ih =>
    rw [linesM_cons h]
    have h1 := cutNL_sum s
    have h2 := fldF_cnt (cutNL s).1 [] []
    simp only [List.map_cons, List.sum_cons]
    have h3 : (fields (cutNL s).1).length ≤ (cutNL s).1.length := by unfold fields; simpa using h2
    omega
theorem VInv.start : VInv ps0 := ⟨PInv.start, (fun c hc => by cases hc), (fun a ha => by cases ha)⟩
theorem litM_of {n : Int} {c : List Int} (h0 : 0 ≤ n) (h1 : n ≤ 1048576) (h : LitsOk n c) : litM n c = 0 := by
  unfold litM
  rw [if_neg (by omega), if_neg (by have := h.1; omega), if_neg]
  rw [Bool.not_eq_true, List.any_eq_false]
  intro a ha
  have := h.2 a ha
  simp [this.1]
  omega
theorem litsM_all {n : Int} : ∀ {k : List (List Int)}, (∀ c ∈ k, litM n c = 0) → litsM n k = 0
  | [], _ => rfl
  | c :: r, h => by
    unfold litsM
    rw [if_neg (by rw [h c (by simp)]; simp)]
    exact litsM_all fun d hd => h d (by simp [hd])
theorem FOk.check {n : Int} {l : List (List Int)} (h : FOk n l) : checkM n l = 0 := by
  unfold checkM
  rw [if_neg (by have := h.n0; have := h.n1; omega), if_neg (by have := h.len; omega)]
  exact litsM_all fun c hc => litM_of h.n0 h.n1 (h.lits c hc)
theorem dec_lenB : ∀ (k u : Nat), 1 ≤ k → u < 10 ^ k → (Lib.decDigits u).length ≤ k
  | 0, u, h, _ => by omega
  | 1, u, _, h => by rw [Lib.decDigits, dif_pos (by simpa using h)]; simp
  | k + 2, u, _, h => by
    rw [Lib.decDigits]
    split
    · simp
    · have h2 : u / 10 < 10 ^ (k + 1) := by rw [Nat.pow_succ] at h; omega
      have := dec_lenB (k + 1) (u / 10) (by omega) h2
      rw [List.length_append]; simp; omega
theorem itoa_lenB {k : Nat} {a : Int} (hk : 1 ≤ k) (h : a.natAbs < 10 ^ k) : (Lib.itoa a).length ≤ k + 1 := by
  unfold Lib.itoa
  split
  · have := dec_lenB k _ hk h
    simp; omega
  · have := dec_lenB k a.toNat hk (by omega)
    omega
theorem clauseT_lenB {k : Nat} (hk : 1 ≤ k) (c : List Int) (hc : ∀ a ∈ c, a.natAbs < 10 ^ k) : (clauseT c).length ≤ c.length * (k + 2) + 2 := by
  unfold clauseT
  rw [List.length_append]
  have := flat_len (fun a => Lib.itoa a ++ [32]) (k + 2) c fun a ha => by
    have := itoa_lenB hk (hc a ha)
    rw [List.length_append]; simp; omega
  simp
  simpa using this
theorem text_wrds {n : Int} : ∀ (l : List (List Int)), (∀ c ∈ l, ∀ a ∈ c, (a.natAbs : Int) ≤ 1048576) → (l.flatMap clauseT).length ≤ 9 * wrds l
  | [], _ => by simp [wrds]
  | c :: r, h => by
    rw [List.flatMap_cons, List.length_append]
    have h1 := clauseT_lenB (k := 7) (by omega) c (fun a ha => by have := h c (by simp) a ha; omega)
    have h2 := text_wrds (n := n) r fun d hd => h d (by simp [hd])
    have h3 : wrds (c :: r) = c.length + 1 + wrds r := by simp [wrds]
    rw [h3]; omega
/-- All that the law asks of what was read. -/
theorem parse_good {s : Bs} (hs : s.length ≤ 2000) {n : Int} {cls : List (List Int)} {ln er : Int} (h : parseM s = ((n, cls), ln, er)) (he : er = 0) : ln = 0 ∧ FitF n cls (textM n cls) := by
  have hw := lines_sum s
  rw [parseM_F (by omega), lr_lines] at h
  unfold parseF at h
  cases hr : runF 1 ps0 true ((linesM s).map fields) with
  | error q =>
    obtain ⟨k, e⟩ := q
    rw [hr] at h
    simp only [Prod.mk.injEq] at h
    have := runF_err _ _ _ _ hr
    exact absurd (h.2.2.trans he) this.1
  | ok q =>
    obtain ⟨st, hd⟩ := q
    rw [hr] at h
    simp only at h
    by_cases hl : st.left ≠ 0
    · rw [if_pos hl] at h
      simp only [Prod.mk.injEq] at h
      have := h.2.2
      omega
    · rw [if_neg hl] at h
      simp only [Prod.mk.injEq] at h
      obtain ⟨⟨rfl, rfl⟩, rfl, _⟩ := h
      obtain ⟨hv, hsz⟩ := runF_v _ _ VInv.start hr
      have hsz2 : wSt st ≤ 2000 := by
        have h0 : wSt ps0 = 0 := rfl
        omega
      have hz : st.left = 0 := by omega
      have hf : FOk st.vars st.cls := ⟨hv.inv.v0, hv.inv.v1, by have := hv.inv.cls; rw [if_neg (by omega)] at this; omega, hv.cls⟩
      have ht : (textM st.vars st.cls).length ≤ 50 + 9 * wrds st.cls := by
        unfold textM headT
        have h1 := itoa_len st.vars (by have := hf.n0; omega) (by have := hf.n1; omega)
        have h2 := itoa_len (st.cls.length : Int) (by omega) (by have := hf.len; omega)
        have h3 := text_wrds (n := st.vars) st.cls fun c hc a ha => by have := (hf.lits c hc).2 a ha; have := hf.n1; omega
        simp only [List.length_append, List.length_cons, List.length_nil]
        omega
      have hw2 : wrds st.cls ≤ 2000 := by unfold wSt at hsz2; omega
      refine ⟨rfl, hf, formatM_ok hf.check rfl (by omega), rfl, by omega, hf.back (by omega), fun c hc a ha => ?_, by have := hf.n0; have := hf.n1; omega⟩
      have := (hf.lits c hc).2 a ha
      have := hf.n1
      omega

end Go.Proofs.YtfllhhgnflpagaaDoor
