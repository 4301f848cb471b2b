/-
  The plain law of unit propagation: a formula of which every variable is an input or has a clause that forces it is decided wholly. No program in sight.
-/
import Derived.Test.YtngimdbjcelkeaaForm
import Derived.Test.YtngimdbjcelkeaaLaw1
namespace Go.Proofs.Ytngimdbjcelkeaa
set_option linter.unusedSimpArgs false
set_option linter.unusedVariables false

/-- Literal x holds. -/
def litT (σ : Nat → Bool) (x : Int) : Bool := σ x.natAbs == decide (0 < x)

/-- n inputs (the variables from 2 on); values σ; a formula that says them. -/
structure Good (n : Nat) (σ : Nat → Bool) (F : Form) : Prop where
  one : σ 1 = true
  inp : n + 1 ≤ F.vars
  len : ∀ c ∈ F.cls, c ≠ [] ∧ c.length ≤ 4
  ok : ∀ c ∈ F.cls, ∀ x ∈ c, okLit F.vars x = true
  sat : ∀ c ∈ F.cls, ∃ x ∈ c, litT σ x = true
  forced : ∀ v, 1 ≤ v → v ≤ F.vars → (2 ≤ v ∧ v ≤ n + 1) ∨ ∃ c ∈ F.cls, ∃ x ∈ c, x.natAbs = v ∧ ∀ y ∈ c, y ≠ x → y.natAbs < v ∧ litT σ y = false

/-- What is known is as σ says. -/
def Cons (σ : Nat → Bool) (k : List Int) : Prop := ∀ v, k.getD v 0 = 0 ∨ k.getD v 0 = (if σ v then 1 else -1)

theorem isM_known {k : List Int} {x : Int} (h : x ≠ 0) : (isM k x).1 = true ↔ k.getD x.natAbs 0 ≠ 0 := by
  unfold isM; rw [if_neg h]; split <;> simp_all
theorem isM_val {σ : Nat → Bool} {k : List Int} (hc : Cons σ k) {x : Int} (h : (isM k x).1 = true) : (isM k x).2 = litT σ x := by
  unfold isM at h ⊢
  split at h
  · cases h
  · split at h
    · cases h
    · rename_i h0 h1
      rw [if_neg h0, if_neg h1]
      rcases hc x.natAbs with h2 | h2
      · exact absurd h2 h1
      · rw [h2]; unfold litT
        cases σ x.natAbs <;> simp
theorem isM_snd {k : List Int} {x : Int} (h : (isM k x).2 = true) : (isM k x).1 = true := by
  unfold isM at h ⊢
  split at h
  · cases h
  · split at h
    · cases h
    · rename_i h0 h1; rw [if_neg h0, if_neg h1]

/-- Known to be false. -/
def fls (k : List Int) (x : Int) : Prop := isM k x = (true, false)
theorem fls_litT {σ : Nat → Bool} {k : List Int} (hc : Cons σ k) {x : Int} (h : fls k x) : litT σ x = false := by
  have := isM_val hc (x := x) (by rw [h])
  rw [h] at this; exact this.symm
theorem fls_of {k : List Int} {x : Int} (h1 : (isM k x).1 = true) (h2 : (isM k x).2 = false) : fls k x := Prod.ext h1 h2

/-- What open has seen of a list, with what it carries. -/
def OpenS (k : List Int) (pre : List Int) (s : Int × Int) : Prop :=
  (s.2 = 0 ∧ ∀ x ∈ pre, fls k x) ∨ (s.2 = 1 ∧ s.1 ∈ pre ∧ (isM k s.1).1 = false ∧ ∀ x ∈ pre, x ≠ s.1 → fls k x) ∨
    (s.2 = 2 ∧ ((∃ x ∈ pre, (isM k x).2 = true) ∨ ∃ x ∈ pre, ∃ y ∈ pre, x ≠ y ∧ (isM k x).1 = false ∧ (isM k y).1 = false))

theorem openM_spec (k : List Int) : ∀ (c pre : List Int) (s : Int × Int), (s.2 = 0 ∨ s.2 = 1) → OpenS k pre s → OpenS k (pre ++ c) (openM k c s) := by
  intro c
  induction c with
  | nil => intro pre s _ h; simpa [openM] using h
  | cons x c ih =>
    intro pre s hs h
    rw [openM]
    by_cases h2 : (isM k x).2 = true
    · rw [if_pos h2]
      exact .inr (.inr ⟨rfl, .inl ⟨x, by simp, h2⟩⟩)
    · rw [if_neg h2]
      have hx2 : (isM k x).2 = false := by simpa using h2
      have e : pre ++ x :: c = (pre ++ [x]) ++ c := by simp
      rw [e]
      by_cases h1 : (isM k x).1 = true
      · have hf := fls_of h1 hx2
        simp only [h1, Bool.not_true, Bool.false_and, Bool.false_eq_true, if_false]
        rw [if_neg (by omega)]
        refine ih _ _ hs ?_
        rcases h with ⟨a, b⟩ | ⟨a, b, c', d⟩ | ⟨a, b⟩
        · exact .inl ⟨a, fun y hy => by
            rcases List.mem_append.1 hy with hy | hy
            · exact b y hy
            · simp at hy; rw [hy]; exact hf⟩
        · exact .inr (.inl ⟨a, by simp [b], c', fun y hy hne => by
            rcases List.mem_append.1 hy with hy | hy
            · exact d y hy hne
            · simp at hy; rw [hy]; exact hf⟩)
        · omega
      · have hx1 : (isM k x).1 = false := by simpa using h1
        simp only [hx1, Bool.not_false, Bool.true_and]
        rcases h with ⟨a, b⟩ | ⟨a, b, c', d⟩ | ⟨a, b⟩
        · have e1 : (if (s.2 == 0 || x != s.1) = true then (x, s.2 + 1) else s) = (x, s.2 + 1) := if_pos (by simp [a])
          simp only [e1]
          rw [if_neg (by omega)]
          refine ih _ _ (.inr (by simp [a])) (.inr (.inl ⟨by simp [a], by simp, hx1, fun y hy hne => ?_⟩))
          rcases List.mem_append.1 hy with hy | hy
          · exact b y hy
          · simp at hy; exact absurd hy hne
        · by_cases hne : x = s.1
          · have e1 : (if (s.2 == 0 || x != s.1) = true then (x, s.2 + 1) else s) = s := if_neg (by simp [a, hne])
            simp only [e1]
            rw [if_neg (by omega)]
            refine ih _ _ (.inr a) (.inr (.inl ⟨a, by simp [b], c', fun y hy hne' => ?_⟩))
            rcases List.mem_append.1 hy with hy | hy
            · exact d y hy hne'
            · simp at hy; exact absurd (hy.trans hne) hne'
          · have e1 : (if (s.2 == 0 || x != s.1) = true then (x, s.2 + 1) else s) = (x, s.2 + 1) := if_pos (by simp [hne])
            simp only [e1]
            rw [if_pos (by omega)]
            exact .inr (.inr ⟨rfl, .inr ⟨x, by simp, s.1, by simp [b], hne, hx1, c'⟩⟩)
        · omega
theorem openM_s (k c : List Int) : OpenS k c (openM k c (0, 0)) := by
  have := openM_spec k c [] (0, 0) (.inl rfl) (.inl ⟨rfl, by simp⟩)
  simpa using this

/-- A clause of which all literals but one are known to be false has this one known, or to be looked at. -/
def CloAt (k work c : List Int) : Prop := ∀ l ∈ c, (∀ x ∈ c, x ≠ l → fls k x) → (isM k l).1 = true ∨ l ∈ work
/-- What open's answer adds. -/
def pushM (work : List Int) (r : Int × Int) : List Int := if r.2 = 1 then work ++ [r.1] else work
theorem CloAt.mono {k work work' c : List Int} (h : CloAt k work c) (hw : ∀ x ∈ work, x ∈ work') : CloAt k work' c := fun l hl hx => (h l hl hx).imp id (hw l)
theorem cloAt_push {σ : Nat → Bool} {k work c : List Int} (hc : Cons σ k) (hs : ∃ x ∈ c, litT σ x = true) :
    (openM k c (0, 0)).2 ≠ 0 ∧ CloAt k (pushM work (openM k c (0, 0))) c ∧ ((openM k c (0, 0)).2 = 1 → (openM k c (0, 0)).1 ∈ c ∧ litT σ (openM k c (0, 0)).1 = true) := by
  obtain ⟨z, hz, hzt⟩ := hs
  have h := openM_s k c
  generalize openM k c (0, 0) = r at *
  have nf : ∀ x, (isM k x).1 = false → ¬ fls k x := fun x h1 h2 => by rw [h2] at h1; cases h1
  rcases h with ⟨a, b⟩ | ⟨a, b, c', d⟩ | ⟨a, b⟩
  · have := fls_litT hc (b z hz); rw [hzt] at this; cases this
  · refine ⟨by omega, fun l hl hx => ?_, fun _ => ⟨b, ?_⟩⟩
    · right
      unfold pushM; rw [if_pos a]
      by_cases e : r.1 = l
      · simp [e]
      · exact absurd (hx _ b e) (nf _ c')
    · by_cases e : z = r.1
      · rw [← e]; exact hzt
      · have := fls_litT hc (d z hz e); rw [hzt] at this; cases this
  · refine ⟨by omega, fun l hl hx => .inl ?_, fun h => by omega⟩
    rcases b with ⟨x, hx', ht⟩ | ⟨x, hx', y, hy, hne, h1, h2⟩
    · by_cases e : x = l
      · rw [← e]; exact isM_snd ht
      · have := hx x hx' e; rw [this] at ht; cases ht
    · by_cases e : x = l
      · exact absurd (hx y hy (by omega)) (nf _ h2)
      · exact absurd (hx x hx' e) (nf _ h1)

/-! ### a literal is taken from the work -/
theorem isM_set_same {k : List Int} {l : Int} (h0 : l ≠ 0) (hl : l.natAbs < k.length) : isM (k.set l.natAbs (signM l)) l = (true, true) := by
  unfold isM
  have e : (k.set l.natAbs (signM l)).getD l.natAbs 0 = signM l := by simp [hl]
  rw [if_neg h0, e]
  unfold signM
  by_cases hp : 0 < l <;> simp [hp]
theorem isM_set_ne {k : List Int} {l x : Int} (v : Int) (h : x.natAbs ≠ l.natAbs) : isM (k.set l.natAbs v) x = isM k x := by
  unfold isM
  have e : (k.set l.natAbs v).getD x.natAbs 0 = k.getD x.natAbs 0 := by
    simp only [List.getD_eq_getElem?_getD, List.getElem?_set]
    rw [if_neg (fun h' => h h'.symm)]
  rw [e]
theorem Cons.set {σ : Nat → Bool} {k : List Int} (hc : Cons σ k) {l : Int} (ht : litT σ l = true) : Cons σ (k.set l.natAbs (signM l)) := by
  intro v
  by_cases hv : v = l.natAbs
  · subst hv
    by_cases hl : l.natAbs < k.length
    · right
      have e : (k.set l.natAbs (signM l)).getD l.natAbs 0 = signM l := by simp [hl]
      rw [e]
      unfold litT at ht
      unfold signM
      by_cases hp : 0 < l
      · simp [hp] at ht; simp [hp, ht]
      · simp [hp] at ht; simp [hp, ht]
    · left; simp [hl]
  · have e : (k.set l.natAbs (signM l)).getD v 0 = k.getD v 0 := by
      simp only [List.getD_eq_getElem?_getD, List.getElem?_set]
      rw [if_neg (fun h' => hv h'.symm)]
    rw [e]; exact hc v
theorem CloAt.set {k work c : List Int} {l : Int} (h0 : l ≠ 0) (hl : l.natAbs < k.length) (h : CloAt k (work ++ [l]) c) (hn : -l ∉ c) : CloAt (k.set l.natAbs (signM l)) work c := by
  intro m hm hx
  have same := isM_set_same h0 hl
  by_cases hml : m = l
  · left; rw [hml, same]
  · have hk : ∀ x ∈ c, x ≠ m → fls k x := fun x hx' hne => by
      have hf := hx x hx' hne
      by_cases hn' : x.natAbs = l.natAbs
      · rcases (by omega : x = l ∨ x = -l) with e | e
        · subst e; unfold fls at hf; rw [same] at hf; cases hf
        · subst e; exact absurd hx' hn
      · unfold fls at hf ⊢; rwa [isM_set_ne _ hn'] at hf
    rcases h m hm hk with hkn | hw
    · left
      by_cases hn' : m.natAbs = l.natAbs
      · rcases (by omega : m = l ∨ m = -l) with e | e
        · rw [e, same]
        · subst e; exact absurd hm hn
      · rw [isM_set_ne _ hn']; exact hkn
    · right
      rcases List.mem_append.1 hw with hw | hw
      · exact hw
      · simp at hw; exact absurd hw hml

/-- All that is forced is known at the end. -/
theorem all_known {n : Nat} {σ : Nat → Bool} {F : Form} (hG : Good n σ F) {k : List Int} (hlen : k.length = F.vars + 1) (hc : Cons σ k) (hclo : ∀ c ∈ F.cls, CloAt k [] c)
    (hin : ∀ v, 2 ≤ v → v ≤ n + 1 → k.getD v 0 ≠ 0) : ∀ v, 1 ≤ v → v ≤ F.vars → k.getD v 0 = (if σ v then 1 else -1) := by
  intro v
  induction v using Nat.strongRecOn with
  | ind v ih =>
    intro h1 h2
    rcases hc v with h | h
    · exfalso
      rcases hG.forced v h1 h2 with ⟨a, b⟩ | ⟨c, hcm, x, hx, hxv, hy⟩
      · exact hin v a b h
      · have hx0 : x ≠ 0 := by intro e; subst e; simp at hxv; omega
        rcases hclo c hcm x hx (fun y hy' hne => by
          obtain ⟨hlt, hf⟩ := hy y hy' hne
          have hy0 : y ≠ 0 := by
            have := hG.ok c hcm y hy'
            intro e; subst e; simp [okLit] at this
          have hyk := ih y.natAbs hlt (by omega) (by omega)
          have hk1 : (isM k y).1 = true := (isM_known hy0).2 (by rw [hyk]; split <;> decide)
          exact fls_of hk1 (by rw [isM_val hc hk1]; exact hf)) with hk | hw
        · have := (isM_known hx0).1 hk
          rw [hxv] at this; exact this h
        · cases hw
    · exact h

end Go.Proofs.Ytngimdbjcelkeaa
