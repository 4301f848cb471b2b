/-
  What the reference's Decide carries, in plain lists. No program in sight.
-/
import Derived.Test.YtngimdbjcelkeaaGood
namespace Go.Proofs.Ytngimdbjcelkeaa
set_option linter.unusedSimpArgs false
set_option linter.unusedVariables false

theorem getD_set_same {α : Type} (l : List α) (a : Nat) (x d : α) (h : a < l.length) : (l.set a x).getD a d = x := by simp [h]
theorem getD_set_other {α : Type} (l : List α) (a b : Nat) (x d : α) (h : a ≠ b) : (l.set a x).getD b d = l.getD b d := by
  simp only [List.getD_eq_getElem?_getD, List.getElem?_set]
  rw [if_neg h]
theorem getD_lt {α : Type} (l : List α) (a : Nat) (d : α) (h : a < l.length) : l.getD a d = l[a] := by simp [h]

/-- The places: of each literal the clauses with it, for the clauses before i, and the first j literals of clause i. -/
structure PlOk (cls : List (List Int)) (pl : List (List Int)) (i j : Nat) : Prop where
  old : ∀ i' (h : i' < cls.length), i' < i → ∀ x ∈ cls[i'], (i' : Int) ∈ pl.getD (placeM x).toNat []
  cur : ∀ (h : i < cls.length), ∀ x ∈ cls[i].take j, (i : Int) ∈ pl.getD (placeM x).toNat []
  all : ∀ l ∈ pl, l.length ≤ 4 * i + j ∧ ∀ e ∈ l, 0 ≤ e ∧ e < cls.length

theorem PlOk.step {cls pl : List (List Int)} {i j : Nat} (h : PlOk cls pl i j) (hi : i < cls.length) (hj : j < cls[i].length) (ha : (placeM cls[i][j]).toNat < pl.length) :
    PlOk cls (pl.set (placeM cls[i][j]).toNat (pl[(placeM cls[i][j]).toNat] ++ [(i : Int)])) i (j + 1) := by
  have mono : ∀ (b : Nat) (e : Int), e ∈ pl.getD b [] → e ∈ (pl.set (placeM cls[i][j]).toNat (pl[(placeM cls[i][j]).toNat] ++ [(i : Int)])).getD b [] := fun b e he => by
    by_cases hb : (placeM cls[i][j]).toNat = b
    · subst hb
      rw [getD_set_same _ _ _ _ ha]
      rw [getD_lt _ _ _ ha] at he
      simp [he]
    · rw [getD_set_other _ _ _ _ _ hb]; exact he
  refine ⟨fun i' h1 h2 x hx => mono _ _ (h.old i' h1 h2 x hx), fun _ x hx => ?_, fun l hl => ?_⟩
  · rw [List.take_succ_eq_append_getElem hj] at hx
    rcases List.mem_append.1 hx with hx | hx
    · exact mono _ _ (h.cur hi x hx)
    · simp only [List.mem_singleton] at hx
      subst hx
      rw [getD_set_same _ _ _ _ ha]; simp
  · rcases List.mem_or_eq_of_mem_set hl with hl | rfl
    · have := h.all l hl
      exact ⟨by omega, this.2⟩
    · have := h.all _ (List.getElem_mem ha)
      refine ⟨by rw [List.length_append]; simp; omega, fun e he => ?_⟩
      rcases List.mem_append.1 he with he | he
      · exact this.2 e he
      · simp at he; subst he; omega
theorem PlOk.step' {cls pl : List (List Int)} {i j a : Nat} (h : PlOk cls pl i j) (hi : i < cls.length) (hj : j < cls[i].length) (ha : placeM cls[i][j] = (a : Int)) (hal : a < pl.length) :
    PlOk cls (pl.set a (pl[a] ++ [(i : Int)])) i (j + 1) := by
  have e : (placeM cls[i][j]).toNat = a := by omega
  have := h.step hi hj (by omega)
  simpa only [e] using this
theorem PlOk.next {cls pl : List (List Int)} {i : Nat} (hi : i < cls.length) (h : PlOk cls pl i cls[i].length) (hl : cls[i].length ≤ 4) : PlOk cls pl (i + 1) 0 := by
  refine ⟨fun i' h1 h2 x hx => ?_, fun _ x hx => by simp at hx, fun l hl' => ⟨by have := (h.all l hl').1; omega, (h.all l hl').2⟩⟩
  by_cases e : i' = i
  · subst e; exact h.cur h1 x (by rw [List.take_length]; exact hx)
  · exact h.old i' h1 (by omega) x hx
theorem PlOk.start (cls : List (List Int)) (n : Nat) : PlOk cls (List.replicate n []) 0 0 :=
  ⟨fun _ _ h => by omega, fun _ x hx => by simp at hx, fun l hl => by simp at hl; obtain ⟨_, rfl⟩ := hl; simp⟩

/-- The work while the places are laid: nothing is known. -/
structure WkA (σ : Nat → Bool) (F : Form) (i : Nat) (work : List Int) : Prop where
  ok : ∀ x ∈ work, okLit F.vars x = true ∧ litT σ x = true
  clo : ∀ i' (h : i' < F.cls.length), i' < i → CloAt (List.replicate (F.vars + 1) 0) work F.cls[i']
  len : work.length ≤ i

theorem cons_zero (σ : Nat → Bool) (n : Nat) : Cons σ (List.replicate n 0) := fun v => .inl (by
  simp only [List.getD_eq_getElem?_getD, List.getElem?_replicate]; split <;> rfl)
theorem WkA.step {n : Nat} {σ : Nat → Bool} {F : Form} {i : Nat} {work : List Int} (hG : Good n σ F) (h : WkA σ F i work) (hi : i < F.cls.length) :
    (openM (List.replicate (F.vars + 1) 0) F.cls[i] (0, 0)).2 ≠ 0 ∧ WkA σ F (i + 1) (pushM work (openM (List.replicate (F.vars + 1) 0) F.cls[i] (0, 0))) := by
  obtain ⟨h1, h2, h3⟩ := cloAt_push (work := work) (cons_zero σ (F.vars + 1)) (hG.sat _ (List.getElem_mem hi))
  refine ⟨h1, ?_⟩
  generalize openM (List.replicate (F.vars + 1) 0) F.cls[i] (0, 0) = r at *
  have hsub : ∀ x ∈ work, x ∈ pushM work r := fun x hx => by unfold pushM; split <;> simp [hx]
  refine ⟨fun x hx => ?_, fun i' hi' hlt => ?_, ?_⟩
  · unfold pushM at hx
    split at hx
    · rename_i e
      rcases List.mem_append.1 hx with hx | hx
      · exact h.ok x hx
      · simp at hx; subst hx
        exact ⟨hG.ok _ (List.getElem_mem hi) _ (h3 e).1, (h3 e).2⟩
    · exact h.ok x hx
  · by_cases e : i' = i
    · subst e; exact h2
    · exact (h.clo i' hi' (by omega)).mono hsub
  · have := h.len
    unfold pushM; split <;> simp <;> omega

/-- The work. -/
structure WkI (n : Nat) (σ : Nat → Bool) (F : Form) (sm : List Int) (k work : List Int) : Prop where
  klen : k.length = F.vars + 1
  k0 : k.getD 0 0 = 0
  cons : Cons σ k
  ok : ∀ x ∈ work, okLit F.vars x = true ∧ litT σ x = true
  clo : ∀ i (h : i < F.cls.length), CloAt k work F.cls[i]
  asm : ∀ x ∈ sm, (isM k x).1 = true ∨ x ∈ work
  bnd : work.length + k.count 0 * 4194304 ≤ 4398052802560
/-- .. while the clauses of a list from number j on are to be looked at. -/
structure WkJ (n : Nat) (σ : Nat → Bool) (F : Form) (sm : List Int) (l : List Int) (j : Nat) (k work : List Int) : Prop where
  klen : k.length = F.vars + 1
  k0 : k.getD 0 0 = 0
  cons : Cons σ k
  ok : ∀ x ∈ work, okLit F.vars x = true ∧ litT σ x = true
  clo : ∀ i (h : i < F.cls.length), (i : Int) ∉ l.drop j → CloAt k work F.cls[i]
  asm : ∀ x ∈ sm, (isM k x).1 = true ∨ x ∈ work
  bnd : work.length + k.count 0 * 4194304 + (l.length - j) ≤ 4398052802560

section
variable {n : Nat} {σ : Nat → Bool} {F : Form} {sm k work : List Int}

theorem WkA.done (hG : Good n σ F) (hc : F.cls.length ≤ 1048576) (hv : F.vars ≤ 1048576) (h : WkA σ F F.cls.length work) (ha : ∀ x ∈ sm, okLit F.vars x = true ∧ litT σ x = true) (hal : sm.length ≤ 1048576) :
    WkI n σ F sm (List.replicate (F.vars + 1) 0) (work ++ sm) := by
  refine ⟨by simp, by simp, cons_zero σ _, fun x hx => ?_, fun i hi => (h.clo i hi hi).mono (fun x hx => by simp [hx]), fun x hx => .inr (by simp [hx]), ?_⟩
  · rcases List.mem_append.1 hx with hx | hx
    · exact h.ok x hx
    · exact ha x hx
  · have := h.len
    rw [List.length_append, List.count_replicate_self]
    omega

theorem WkI.seen {x : Int} (h : WkI n σ F sm k (work ++ [x])) (hk : (isM k x).1 = true) : (isM k x).2 = true ∧ WkI n σ F sm k work := by
  refine ⟨by rw [isM_val h.cons hk]; exact (h.ok x (by simp)).2, h.klen, h.k0, h.cons, fun y hy => h.ok y (by simp [hy]), fun i hi l hl hx => ?_, fun y hy => ?_, ?_⟩
  · rcases h.clo i hi l hl hx with h1 | h1
    · exact .inl h1
    · rcases List.mem_append.1 h1 with h1 | h1
      · exact .inr h1
      · simp at h1; subst h1; exact .inl hk
  · rcases h.asm y hy with h1 | h1
    · exact .inl h1
    · rcases List.mem_append.1 h1 with h1 | h1
      · exact .inr h1
      · simp at h1; subst h1; exact .inl hk
  · have := h.bnd; rw [List.length_append] at this; simp at this; omega

theorem count_set_zero {k : List Int} {v : Nat} {x : Int} (hv : v < k.length) (h0 : k[v] = 0) (hx : x ≠ 0) : (k.set v x).count 0 + 1 = k.count 0 := by
  have h1 : 0 < k.count 0 := List.count_pos_iff.2 (by rw [← h0]; exact List.getElem_mem hv)
  rw [List.count_set hv]
  simp [h0, hx]
  omega

theorem WkI.take {x : Int} {l : List Int} (h : WkI n σ F sm k (work ++ [x])) (hk : (isM k x).1 = false) (hl : ∀ i (hi : i < F.cls.length), -x ∈ F.cls[i] → (i : Int) ∈ l) (hll : l.length ≤ 4194304) :
    x.natAbs < k.length ∧ x ≠ 0 ∧ WkJ n σ F sm l 0 (k.set x.natAbs (signM x)) work := by
  obtain ⟨ho, ht⟩ := h.ok x (by simp)
  obtain ⟨hx0, hxv⟩ := okLit_spec.1 ho
  have hxl : x.natAbs < k.length := by rw [h.klen]; omega
  have hz : k[x.natAbs] = 0 := by
    by_cases e : k[x.natAbs] = 0
    · exact e
    · have := (isM_known (k := k) hx0).2 (by rw [getD_lt _ _ _ hxl]; exact e)
      rw [hk] at this; cases this
  have hs0 : signM x ≠ 0 := by unfold signM; split <;> decide
  have hcnt := count_set_zero hxl hz hs0
  refine ⟨hxl, hx0, by rw [List.length_set]; exact h.klen, ?_, h.cons.set ht, fun y hy => h.ok y (by simp [hy]), fun i hi hn => ?_, fun y hy => ?_, ?_⟩
  · rw [getD_set_other _ _ _ _ _ (by omega)]; exact h.k0
  · rw [List.drop_zero] at hn
    exact (h.clo i hi).set hx0 hxl (fun hm => hn (hl i hi hm))
  · by_cases hyx : y.natAbs = x.natAbs
    · rcases (by omega : y = x ∨ y = -x) with e | e
      · subst e; left; rw [isM_set_same hx0 hxl]
      · rcases h.asm y hy with h1 | h1
        · rw [(isM_known (by omega)), hyx, getD_lt _ _ _ hxl] at h1; exact absurd hz h1
        · have := (h.ok y h1).2
          rw [e, litT_neg _ hx0, ht] at this; cases this
    · rcases h.asm y hy with h1 | h1
      · left; rw [isM_set_ne _ hyx]; exact h1
      · rcases List.mem_append.1 h1 with h1 | h1
        · exact .inr h1
        · simp at h1; subst h1; exact absurd rfl hyx
  · have := h.bnd; rw [List.length_append] at this; simp at this; omega

theorem WkJ.step {l : List Int} {j : Nat} (hG : Good n σ F) (h : WkJ n σ F sm l j k work) (hj : j < l.length) (i : Nat) (hi : i < F.cls.length) (hij : l[j] = (i : Int)) :
    (openM k F.cls[i] (0, 0)).2 ≠ 0 ∧ WkJ n σ F sm l (j + 1) k (pushM work (openM k F.cls[i] (0, 0))) := by
  obtain ⟨h1, h2, h3⟩ := cloAt_push (work := work) h.cons (hG.sat _ (List.getElem_mem hi))
  refine ⟨h1, ?_⟩
  generalize openM k F.cls[i] (0, 0) = r at *
  have hsub : ∀ x ∈ work, x ∈ pushM work r := fun x hx => by unfold pushM; split <;> simp [hx]
  refine ⟨h.klen, h.k0, h.cons, fun x hx => ?_, fun i' hi' hn => ?_, fun x hx => (h.asm x hx).imp id (hsub x), ?_⟩
  · unfold pushM at hx
    split at hx
    · rename_i e
      rcases List.mem_append.1 hx with hx | hx
      · exact h.ok x hx
      · simp at hx; subst hx
        exact ⟨hG.ok _ (List.getElem_mem hi) _ (h3 e).1, (h3 e).2⟩
    · exact h.ok x hx
  · by_cases e : i' = i
    · subst e; exact h2
    · refine (h.clo i' hi' ?_).mono hsub
      rw [List.drop_eq_getElem_cons hj, hij]
      simp only [List.mem_cons, not_or]
      exact ⟨by omega, hn⟩
  · have := h.bnd
    unfold pushM; split <;> simp <;> omega
theorem WkJ.done {l : List Int} (h : WkJ n σ F sm l l.length k work) : WkI n σ F sm k work :=
  ⟨h.klen, h.k0, h.cons, h.ok, fun i hi => h.clo i hi (by simp), h.asm, by have := h.bnd; omega⟩

theorem WkI.done (hG : Good n σ F) (h : WkI n σ F sm k []) (hI : ∀ v, 2 ≤ v → v ≤ n + 1 → ∃ x ∈ sm, x.natAbs = v) : ∀ v, 1 ≤ v → v ≤ F.vars → k.getD v 0 = (if σ v then 1 else -1) := by
  refine all_known hG h.klen h.cons (fun c hc => ?_) (fun v h1 h2 => ?_)
  · obtain ⟨i, hi, rfl⟩ := List.mem_iff_getElem.1 hc
    exact h.clo i hi
  · obtain ⟨x, hx, hxv⟩ := hI v h1 h2
    rcases h.asm x hx with h3 | h3
    · rw [← hxv]; exact (isM_known (by omega)).1 h3
    · cases h3
end

end Go.Proofs.Ytngimdbjcelkeaa
