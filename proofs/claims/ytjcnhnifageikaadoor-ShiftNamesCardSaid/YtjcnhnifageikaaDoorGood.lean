/-
  The plain law of unit propagation: a formula of which every variable is an input or has a clause that forces it is decided wholly. No program in sight.
  The plain law of gates: what a gate adds keeps a formula decided, and its literal has the gate's value. No program in sight.
-/
import Derived.Test.YtjcnhnifageikaaDoorForm
import Derived.Test.YtjcnhnifageikaaDoorLaw1
namespace Go.Proofs.YtjcnhnifageikaaDoor
set_option linter.unusedSimpArgs false
set_option linter.unusedVariables false

/-- Literal x holds. -/
def litT (σ : Nat → Bool) (x : Int) : Bool := σ x.natAbs == decide (0 < x)

/-- n inputs (the variables from 2 on); values σ; a formula that says them. -/
structure Good (n : Nat) (σ : Nat → Bool) (F : Form) : Prop where
  one : σ 1 = true
  inp : n + 1 ≤ F.vars
  len : ∀ c ∈ F.cls, c ≠ [] ∧ c.length ≤ 4
  ok : ∀ c ∈ F.cls, ∀ x ∈ c, okLit F.vars x = true
  sat : ∀ c ∈ F.cls, ∃ x ∈ c, litT σ x = true
  forced : ∀ v, 1 ≤ v → v ≤ F.vars → (2 ≤ v ∧ v ≤ n + 1) ∨ ∃ c ∈ F.cls, ∃ x ∈ c, x.natAbs = v ∧ ∀ y ∈ c, y ≠ x → y.natAbs < v ∧ litT σ y = false

/-- What is known is as σ says. -/
def Cons (σ : Nat → Bool) (k : List Int) : Prop := ∀ v, k.getD v 0 = 0 ∨ k.getD v 0 = (if σ v then 1 else -1)

theorem isM_known {k : List Int} {x : Int} (h : x ≠ 0) : (isM k x).1 = true ↔ k.getD x.natAbs 0 ≠ 0 := by
  unfold isM; rw [if_neg h]; split <;> simp_all
theorem isM_val {σ : Nat → Bool} {k : List Int} (hc : Cons σ k) {x : Int} (h : (isM k x).1 = true) : (isM k x).2 = litT σ x := by
  unfold isM at h ⊢
  split at h
  · cases h
  · split at h
    · cases h
    · rename_i h0 h1
      rw [if_neg h0, if_neg h1]
      rcases hc x.natAbs with h2 | h2
      · exact absurd h2 h1
      · rw [h2]; unfold litT
        cases σ x.natAbs <;> simp
theorem isM_snd {k : List Int} {x : Int} (h : (isM k x).2 = true) : (isM k x).1 = true := by
  unfold isM at h ⊢
  split at h
  · cases h
  · split at h
    · cases h
    · rename_i h0 h1; rw [if_neg h0, if_neg h1]

/-- Known to be false. -/
def fls (k : List Int) (x : Int) : Prop := isM k x = (true, false)
theorem fls_litT {σ : Nat → Bool} {k : List Int} (hc : Cons σ k) {x : Int} (h : fls k x) : litT σ x = false := by
  have := isM_val hc (x := x) (by rw [h])
  rw [h] at this; exact this.symm
theorem fls_of {k : List Int} {x : Int} (h1 : (isM k x).1 = true) (h2 : (isM k x).2 = false) : fls k x := Prod.ext h1 h2

/-- What open has seen of a list, with what it carries. -/
def OpenS (k : List Int) (pre : List Int) (s : Int × Int) : Prop :=
  (s.2 = 0 ∧ ∀ x ∈ pre, fls k x) ∨ (s.2 = 1 ∧ s.1 ∈ pre ∧ (isM k s.1).1 = false ∧ ∀ x ∈ pre, x ≠ s.1 → fls k x) ∨
    (s.2 = 2 ∧ ((∃ x ∈ pre, (isM k x).2 = true) ∨ ∃ x ∈ pre, ∃ y ∈ pre, x ≠ y ∧ (isM k x).1 = false ∧ (isM k y).1 = false))

theorem openM_spec (k : List Int) : ∀ (c pre : List Int) (s : Int × Int), (s.2 = 0 ∨ s.2 = 1) → OpenS k pre s → OpenS k (pre ++ c) (openM k c s) := by
  intro c
  induction c with
  | nil => intro pre s _ h; simpa [openM] using h
  | cons x c ih =>
    intro pre s hs h
    rw [openM]
    by_cases h2 : (isM k x).2 = true
    · rw [if_pos h2]
      exact .inr (.inr ⟨rfl, .inl ⟨x, by simp, h2⟩⟩)
    · rw [if_neg h2]
      have hx2 : (isM k x).2 = false := by simpa using h2
      have e : pre ++ x :: c = (pre ++ [x]) ++ c := by simp
      rw [e]
      by_cases h1 : (isM k x).1 = true
      · have hf := fls_of h1 hx2
        simp only [h1, Bool.not_true, Bool.false_and, Bool.false_eq_true, if_false]
        rw [if_neg (by omega)]
        refine ih _ _ hs ?_
        rcases h with ⟨a, b⟩ | ⟨a, b, c', d⟩ | ⟨a, b⟩
        · exact .inl ⟨a, fun y hy => by
            rcases List.mem_append.1 hy with hy | hy
            · exact b y hy
            · simp at hy; rw [hy]; exact hf⟩
        · exact .inr (.inl ⟨a, by simp [b], c', fun y hy hne => by
            rcases List.mem_append.1 hy with hy | hy
            · exact d y hy hne
            · simp at hy; rw [hy]; exact hf⟩)
        · omega
      · have hx1 : (isM k x).1 = false := by simpa using h1
        simp only [hx1, Bool.not_false, Bool.true_and]
        rcases h with ⟨a, b⟩ | ⟨a, b, c', d⟩ | ⟨a, b⟩
        · have e1 : (if (s.2 == 0 || x != s.1) = true then (x, s.2 + 1) else s) = (x, s.2 + 1) := if_pos (by simp [a])
          simp only [e1]
          rw [if_neg (by omega)]
          refine ih _ _ (.inr (by simp [a])) (.inr (.inl ⟨by simp [a], by simp, hx1, fun y hy hne => ?_⟩))
          rcases List.mem_append.1 hy with hy | hy
          · exact b y hy
          · simp at hy; exact absurd hy hne
        · by_cases hne : x = s.1
          · have e1 : (if (s.2 == 0 || x != s.1) = true then (x, s.2 + 1) else s) = s := if_neg (by simp [a, hne])
            simp only [e1]
            rw [if_neg (by omega)]
            refine ih _ _ (.inr a) (.inr (.inl ⟨a, by simp [b], c', fun y hy hne' => ?_⟩))
            rcases List.mem_append.1 hy with hy | hy
            · exact d y hy hne'
            · simp at hy; exact absurd (hy.trans hne) hne'
          · have e1 : (if (s.2 == 0 || x != s.1) = true then (x, s.2 + 1) else s) = (x, s.2 + 1) := if_pos (by simp [hne])
            simp only [e1]
            rw [if_pos (by omega)]
            exact .inr (.inr ⟨rfl, .inr ⟨x, by simp, s.1, by simp [b], hne, hx1, c'⟩⟩)
        · omega
theorem openM_s (k c : List Int) : OpenS k c (openM k c (0, 0)) := by
  have := openM_spec k c [] (0, 0) (.inl rfl) (.inl ⟨rfl, by simp⟩)
  simpa using this

/-- A clause of which all literals but one are known to be false has this one known, or to be looked at. -/
def CloAt (k work c : List Int) : Prop := ∀ l ∈ c, (∀ x ∈ c, x ≠ l → fls k x) → (isM k l).1 = true ∨ l ∈ work
/-- What open's answer adds. -/
def pushM (work : List Int) (r : Int × Int) : List Int := if r.2 = 1 then work ++ [r.1] else work
theorem CloAt.mono {k work work' c : List Int} (h : CloAt k work c) (hw : ∀ x ∈ work, x ∈ work') : CloAt k work' c := fun l hl hx => (h l hl hx).imp id (hw l)
theorem cloAt_push {σ : Nat → Bool} {k work c : List Int} (hc : Cons σ k) (hs : ∃ x ∈ c, litT σ x = true) :
    (openM k c (0, 0)).2 ≠ 0 ∧ CloAt k (pushM work (openM k c (0, 0))) c ∧ ((openM k c (0, 0)).2 = 1 → (openM k c (0, 0)).1 ∈ c ∧ litT σ (openM k c (0, 0)).1 = true) := by
  obtain ⟨z, hz, hzt⟩ := hs
  have h := openM_s k c
  generalize openM k c (0, 0) = r at *
  have nf : ∀ x, (isM k x).1 = false → ¬ fls k x := fun x h1 h2 => by rw [h2] at h1; cases h1
  rcases h with ⟨a, b⟩ | ⟨a, b, c', d⟩ | ⟨a, b⟩
  · have := fls_litT hc (b z hz); rw [hzt] at this; cases this
  · refine ⟨by omega, fun l hl hx => ?_, fun _ => ⟨b, ?_⟩⟩
    · right
      unfold pushM; rw [if_pos a]
      by_cases e : r.1 = l
      · simp [e]
      · exact absurd (hx _ b e) (nf _ c')
    · by_cases e : z = r.1
      · rw [← e]; exact hzt
      · have := fls_litT hc (d z hz e); rw [hzt] at this; cases this
  · refine ⟨by omega, fun l hl hx => .inl ?_, fun h => by omega⟩
    rcases b with ⟨x, hx', ht⟩ | ⟨x, hx', y, hy, hne, h1, h2⟩
    · by_cases e : x = l
      · rw [← e]; exact isM_snd ht
      · have := hx x hx' e; rw [this] at ht; cases ht
    · by_cases e : x = l
      · exact absurd (hx y hy (by omega)) (nf _ h2)
      · exact absurd (hx x hx' e) (nf _ h1)

/-! ### a literal is taken from the work -/
theorem isM_set_same {k : List Int} {l : Int} (h0 : l ≠ 0) (hl : l.natAbs < k.length) : isM (k.set l.natAbs (signM l)) l = (true, true) := by
  unfold isM
  have e : (k.set l.natAbs (signM l)).getD l.natAbs 0 = signM l := by simp [hl]
  rw [if_neg h0, e]
  unfold signM
  by_cases hp : 0 < l <;> simp [hp]
theorem isM_set_ne {k : List Int} {l x : Int} (v : Int) (h : x.natAbs ≠ l.natAbs) : isM (k.set l.natAbs v) x = isM k x := by
  unfold isM
  have e : (k.set l.natAbs v).getD x.natAbs 0 = k.getD x.natAbs 0 := by
    simp only [List.getD_eq_getElem?_getD, List.getElem?_set]
    rw [if_neg (fun h' => h h'.symm)]
  rw [e]
theorem Cons.set {σ : Nat → Bool} {k : List Int} (hc : Cons σ k) {l : Int} (ht : litT σ l = true) : Cons σ (k.set l.natAbs (signM l)) := by
  intro v
  by_cases hv : v = l.natAbs
  · subst hv
    by_cases hl : l.natAbs < k.length
    · right
      have e : (k.set l.natAbs (signM l)).getD l.natAbs 0 = signM l := by simp [hl]
      rw [e]
      unfold litT at ht
      unfold signM
      by_cases hp : 0 < l
      · simp [hp] at ht; simp [hp, ht]
      · simp [hp] at ht; simp [hp, ht]
    · left; simp [hl]
  · have e : (k.set l.natAbs (signM l)).getD v 0 = k.getD v 0 := by
      simp only [List.getD_eq_getElem?_getD, List.getElem?_set]
      rw [if_neg (fun h' => hv h'.symm)]
    rw [e]; exact hc v
theorem CloAt.set {k work c : List Int} {l : Int} (h0 : l ≠ 0) (hl : l.natAbs < k.length) (h : CloAt k (work ++ [l]) c) (hn : -l ∉ c) : CloAt (k.set l.natAbs (signM l)) work c := by
  intro m hm hx
  have same := isM_set_same h0 hl
  by_cases hml : m = l
  · left; rw [hml, same]
  · have hk : ∀ x ∈ c, x ≠ m → fls k x := fun x hx' hne => by
      have hf := hx x hx' hne
      by_cases hn' : x.natAbs = l.natAbs
      · rcases (by omega : x = l ∨ x = -l) with e | e
        · subst e; unfold fls at hf; rw [same] at hf; cases hf
        · subst e; exact absurd hx' hn
      · unfold fls at hf ⊢; rwa [isM_set_ne _ hn'] at hf
    rcases h m hm hk with hkn | hw
    · left
      by_cases hn' : m.natAbs = l.natAbs
      · rcases (by omega : m = l ∨ m = -l) with e | e
        · rw [e, same]
        · subst e; exact absurd hm hn
      · rw [isM_set_ne _ hn']; exact hkn
    · right
      rcases List.mem_append.1 hw with hw | hw
      · exact hw
      · simp at hw; exact absurd hw hml

/-- All that is forced is known at the end. -/
theorem all_known {n : Nat} {σ : Nat → Bool} {F : Form} (hG : Good n σ F) {k : List Int} (hlen : k.length = F.vars + 1) (hc : Cons σ k) (hclo : ∀ c ∈ F.cls, CloAt k [] c)
    (hin : ∀ v, 2 ≤ v → v ≤ n + 1 → k.getD v 0 ≠ 0) : ∀ v, 1 ≤ v → v ≤ F.vars → k.getD v 0 = (if σ v then 1 else -1) := by
  intro v
  induction v using Nat.strongRecOn with
  | ind v ih =>
    intro h1 h2
    rcases hc v with h | h
    · exfalso
      rcases hG.forced v h1 h2 with ⟨a, b⟩ | ⟨c, hcm, x, hx, hxv, hy⟩
      · exact hin v a b h
      · have hx0 : x ≠ 0 := by intro e; subst e; simp at hxv; omega
        rcases hclo c hcm x hx (fun y hy' hne => by
          obtain ⟨hlt, hf⟩ := hy y hy' hne
          have hy0 : y ≠ 0 := by
            have := hG.ok c hcm y hy'
            intro e; subst e; simp [okLit] at this
          have hyk := ih y.natAbs hlt (by omega) (by omega)
          have hk1 : (isM k y).1 = true := (isM_known hy0).2 (by rw [hyk]; split <;> decide)
          exact fls_of hk1 (by rw [isM_val hc hk1]; exact hf)) with hk | hw
        · have := (isM_known hx0).1 hk
          rw [hxv] at this; exact this h
        · cases hw
    · exact h

end Go.Proofs.YtjcnhnifageikaaDoor

namespace Go.Proofs.YtjcnhnifageikaaDoor
set_option linter.unusedSimpArgs false
set_option linter.unusedVariables false

theorem litT_neg (σ : Nat → Bool) {x : Int} (h : x ≠ 0) : litT σ (-x) = !litT σ x := by
  unfold litT
  rw [Int.natAbs_neg]
  by_cases hp : 0 < x
  · have : ¬ 0 < -x := by omega
    cases σ x.natAbs <;> simp [hp] <;> omega
  · have : 0 < -x := by omega
    cases σ x.natAbs <;> simp [hp] <;> omega
theorem okLit_spec {n : Nat} {x : Int} : okLit n x = true ↔ x ≠ 0 ∧ x.natAbs ≤ n := by
  unfold okLit
  simp only [Bool.not_eq_true', Bool.or_eq_false_iff, beq_eq_false_iff_ne, decide_eq_false_iff_not]
  omega
theorem litT_agree {σ σ' : Nat → Bool} {x : Int} (h : σ' x.natAbs = σ x.natAbs) : litT σ' x = litT σ x := by unfold litT; rw [h]

/-- σ with a value for one variable more. -/
def ext (σ : Nat → Bool) (g : Nat) (b : Bool) : Nat → Bool := fun v => if v = g then b else σ v
theorem ext_same (σ : Nat → Bool) (g : Nat) (b : Bool) : ext σ g b g = b := if_pos rfl
theorem ext_ne {σ : Nat → Bool} {g v : Nat} (b : Bool) (h : v ≠ g) : ext σ g b v = σ v := if_neg h

theorem Good.add {n : Nat} {σ : Nat → Bool} {F : Form} (hG : Good n σ F) (b : Bool) (cs : List (List Int))
    (h1 : ∀ c ∈ cs, (c ≠ [] ∧ c.length ≤ 4) ∧ (∀ x ∈ c, okLit (F.vars + 1 : Nat) x = true) ∧ ∃ x ∈ c, litT (ext σ (F.vars + 1) b) x = true)
    (h2 : ∃ c ∈ cs, ∃ x ∈ c, x.natAbs = F.vars + 1 ∧ ∀ y ∈ c, y ≠ x → y.natAbs < F.vars + 1 ∧ litT (ext σ (F.vars + 1) b) y = false) :
    Good n (ext σ (F.vars + 1) b) ⟨F.vars + 1, F.cls ++ cs⟩ := by
  have old : ∀ x, okLit F.vars x = true → litT (ext σ (F.vars + 1) b) x = litT σ x := fun x hx => litT_agree (ext_ne _ (by have := (okLit_spec.1 hx).2; omega))
  have hin := hG.inp
  refine ⟨by rw [ext_ne _ (by omega)]; exact hG.one, by show n + 1 ≤ F.vars + 1; omega, fun c hc => ?_, fun c hc x hx => ?_, fun c hc => ?_, fun v hv hv' => ?_⟩
  · rcases List.mem_append.1 hc with hc | hc
    · exact hG.len c hc
    · exact (h1 c hc).1
  · rcases List.mem_append.1 hc with hc | hc
    · have := okLit_spec.1 (hG.ok c hc x hx)
      exact okLit_spec.2 ⟨this.1, by show x.natAbs ≤ F.vars + 1; omega⟩
    · exact (h1 c hc).2.1 x hx
  · rcases List.mem_append.1 hc with hc | hc
    · obtain ⟨x, hx, ht⟩ := hG.sat c hc
      exact ⟨x, hx, by rw [old x (hG.ok c hc x hx)]; exact ht⟩
    · exact (h1 c hc).2.2
  · by_cases hvg : v = F.vars + 1
    · subst hvg
      obtain ⟨c, hc, x, hx, hxv, hy⟩ := h2
      exact .inr ⟨c, by simp [hc], x, hx, hxv, hy⟩
    · rcases hG.forced v hv (by have : v ≤ F.vars + 1 := hv'; omega) with h | ⟨c, hc, x, hx, hxv, hy⟩
      · exact .inl h
      · exact .inr ⟨c, by simp [hc], x, hx, hxv, fun y hy' hne => ⟨(hy y hy' hne).1, by rw [old y (hG.ok c hc y hy')]; exact (hy y hy' hne).2⟩⟩

/-- F' goes on from F: the values of old variables, and how much is new. -/
structure Ext (n : Nat) (σ : Nat → Bool) (F : Form) (σ' : Nat → Bool) (F' : Form) (dv dc : Nat) : Prop where
  good : Good n σ' F'
  old : ∀ v, v ≤ F.vars → σ' v = σ v
  v0 : F.vars ≤ F'.vars
  v1 : F'.vars ≤ F.vars + dv
  c0 : F.cls.length ≤ F'.cls.length
  c1 : F'.cls.length ≤ F.cls.length + dc
theorem Ext.refl {n : Nat} {σ : Nat → Bool} {F : Form} (h : Good n σ F) (dv dc : Nat) : Ext n σ F σ F dv dc := ⟨h, fun _ _ => rfl, Nat.le_refl _, by omega, Nat.le_refl _, by omega⟩
theorem Ext.trans {n : Nat} {σ σ' σ'' : Nat → Bool} {F F' F'' : Form} {a b c d e f : Nat} (h : Ext n σ F σ' F' a b) (k : Ext n σ' F' σ'' F'' c d) (he : a + c ≤ e) (hf : b + d ≤ f) : Ext n σ F σ'' F'' e f :=
  ⟨k.good, fun v hv => (k.old v (by have := h.v0; omega)).trans (h.old v hv), Nat.le_trans h.v0 k.v0, by have := h.v1; have := k.v1; omega, Nat.le_trans h.c0 k.c0, by have := h.c1; have := k.c1; omega⟩
theorem Ext.litT {n : Nat} {σ σ' : Nat → Bool} {F F' : Form} {a b : Nat} (h : Ext n σ F σ' F' a b) {x : Int} (hx : okLit F.vars x = true) : litT σ' x = litT σ x := litT_agree (h.old _ (okLit_spec.1 hx).2)
theorem Ext.ok {n : Nat} {σ σ' : Nat → Bool} {F F' : Form} {a b : Nat} (h : Ext n σ F σ' F' a b) {x : Int} (hx : okLit F.vars x = true) : okLit F'.vars x = true := by
  have := okLit_spec.1 hx
  exact okLit_spec.2 ⟨this.1, by have := h.v0; omega⟩

/-- A gate's answer: no error, a literal with value b. -/
def GateOk (n : Nat) (σ : Nat → Bool) (F : Form) (r : Out) (b : Bool) : Prop :=
  r.2.1 = 0 ∧ ∃ σ', Ext n σ F σ' r.2.2 1 6 ∧ okLit r.2.2.vars r.1 = true ∧ litT σ' r.1 = b

theorem Good.t1 {n : Nat} {σ : Nat → Bool} {F : Form} (hG : Good n σ F) : litT σ 1 = true := by
  unfold litT; rw [show (1 : Int).natAbs = 1 from rfl, hG.one]; rfl
theorem Good.tm1 {n : Nat} {σ : Nat → Bool} {F : Form} (hG : Good n σ F) : litT σ (-1) = false := by
  rw [litT_neg _ (by decide), hG.t1]; rfl
theorem Good.ok1 {n : Nat} {σ : Nat → Bool} {F : Form} (hG : Good n σ F) : okLit F.vars 1 = true := okLit_spec.2 ⟨by decide, by have := hG.inp; show 1 ≤ F.vars; omega⟩
theorem ok_neg {n : Nat} {x : Int} (h : okLit n x = true) : okLit n (-x) = true := by
  have := okLit_spec.1 h
  exact okLit_spec.2 (by omega)
theorem GateOk.old {n : Nat} {σ : Nat → Bool} {F : Form} (hG : Good n σ F) {x : Int} {b : Bool} (hx : okLit F.vars x = true) (hb : litT σ x = b) : GateOk n σ F (x, 0, F) b :=
  ⟨rfl, σ, Ext.refl hG _ _, hx, hb⟩
theorem GateOk.cast {n : Nat} {σ : Nat → Bool} {F : Form} {r : Out} {b b' : Bool} (h : GateOk n σ F r b) (e : b = b') : GateOk n σ F r b' := e ▸ h

/-- What a written gate must show. -/
theorem GateOk.write {n : Nat} {σ : Nat → Bool} {F : Form} (hG : Good n σ F) (k : Nat) (args : List Int) (b : Bool) (hv : F.vars < 1048576) (hc : F.cls.length + 6 ≤ 1048576) (hk : (gateTbl k).length ≤ 6)
    (h1 : ∀ c ∈ (gateTbl k).map (inst (0 :: ((F.vars : Int) + 1) :: args)), (c ≠ [] ∧ c.length ≤ 4) ∧ (∀ x ∈ c, okLit (F.vars + 1 : Nat) x = true) ∧ ∃ x ∈ c, litT (ext σ (F.vars + 1) b) x = true)
    (h2 : ∃ c ∈ (gateTbl k).map (inst (0 :: ((F.vars : Int) + 1) :: args)), ∃ x ∈ c, x.natAbs = F.vars + 1 ∧ ∀ y ∈ c, y ≠ x → y.natAbs < F.vars + 1 ∧ litT (ext σ (F.vars + 1) b) y = false) :
    GateOk n σ F (writeM F k args) b := by
  unfold writeM
  rw [if_neg (by omega)]
  refine ⟨rfl, _, ⟨hG.add b _ h1 h2, fun v hv => ext_ne _ (by omega), by show F.vars ≤ F.vars + 1; omega, Nat.le_refl _, by simp, by simp; omega⟩, okLit_spec.2 ⟨by show (F.vars : Int) + 1 ≠ 0; omega, by show ((F.vars : Int) + 1).natAbs ≤ F.vars + 1; omega⟩, ?_⟩
  show litT _ ((F.vars : Int) + 1) = b
  unfold litT
  rw [show ((F.vars : Int) + 1).natAbs = F.vars + 1 by omega, ext_same]
  have : 0 < (F.vars : Int) + 1 := by omega
  simp [this]

section
variable {n : Nat} {σ : Nat → Bool} {F : Form}

/-- The facts about the new literal and an old one that the clauses need. -/
theorem new_lit (b : Bool) : litT (ext σ (F.vars + 1) b) ((F.vars : Int) + 1) = b ∧ litT (ext σ (F.vars + 1) b) (-((F.vars : Int) + 1)) = !b := by
  have h : litT (ext σ (F.vars + 1) b) ((F.vars : Int) + 1) = b := by
    unfold litT
    rw [show ((F.vars : Int) + 1).natAbs = F.vars + 1 by omega, ext_same]
    have : 0 < (F.vars : Int) + 1 := by omega
    simp [this]
  exact ⟨h, by rw [litT_neg _ (by omega), h]⟩
theorem old_lit (b : Bool) {x : Int} (hx : okLit F.vars x = true) : litT (ext σ (F.vars + 1) b) x = litT σ x ∧ litT (ext σ (F.vars + 1) b) (-x) = !litT σ x := by
  have h : litT (ext σ (F.vars + 1) b) x = litT σ x := litT_agree (ext_ne _ (by have := (okLit_spec.1 hx).2; omega))
  exact ⟨h, by rw [litT_neg _ (okLit_spec.1 hx).1, h]⟩

theorem and_good (hG : Good n σ F) {x y : Int} (hx : okLit F.vars x = true) (hy : okLit F.vars y = true) (hv : F.vars < 1048576) (hc : F.cls.length + 6 ≤ 1048576) :
    GateOk n σ F (andM F x y) (litT σ x && litT σ y) := by
  have hall : hasAll F.vars [x, y] = true := by simp [hasAll, hx, hy]
  unfold andM
  rw [hall]
  simp only [Bool.not_true, Bool.false_eq_true, if_false]
  split
  · rename_i h
    refine GateOk.old hG hx ?_
    rcases h with rfl | rfl
    · simp
    · rw [hG.t1]; simp
  · split
    · rename_i h; subst h
      exact GateOk.old hG hy (by rw [hG.t1]; simp)
    · split
      · rename_i h
        refine GateOk.old hG (ok_neg hG.ok1) ?_
        rw [hG.tm1]
        rcases h with rfl | rfl | rfl
        · rw [litT_neg _ (okLit_spec.1 hy).1]; simp
        · rw [hG.tm1]; simp
        · rw [hG.tm1]; simp
      · have sx := okLit_spec.1 hx
        have sy := okLit_spec.1 hy
        obtain ⟨g1, g2⟩ := new_lit (σ := σ) (F := F) (litT σ x && litT σ y)
        obtain ⟨x1, x2⟩ := old_lit (σ := σ) (litT σ x && litT σ y) hx
        obtain ⟨y1, y2⟩ := old_lit (σ := σ) (litT σ x && litT σ y) hy
        have e : (gateTbl 0).map (inst (0 :: ((F.vars : Int) + 1) :: [x, y])) = [[-((F.vars : Int) + 1), x], [-((F.vars : Int) + 1), y], [(F.vars : Int) + 1, -x, -y]] := rfl
        have so : ∀ z : Int, z ≠ 0 ∧ z.natAbs ≤ F.vars + 1 → okLit (F.vars + 1 : Nat) z = true := fun z => okLit_spec.2
        refine GateOk.write hG 0 [x, y] _ hv hc (by decide) ?_ ?_
        · rw [e]
          simp only [List.mem_cons, List.not_mem_nil, or_false, forall_eq_or_imp, forall_eq, exists_eq_or_imp, exists_eq_left, g1, g2, x1, x2, y1, y2]
          refine ⟨⟨⟨by simp, by simp⟩, ⟨so _ (by omega), so _ (by omega)⟩, ?_⟩, ⟨⟨by simp, by simp⟩, ⟨so _ (by omega), so _ (by omega)⟩, ?_⟩, ⟨⟨by simp, by simp⟩, ⟨so _ (by omega), so _ (by omega), so _ (by omega)⟩, ?_⟩⟩
          all_goals (cases litT σ x <;> cases litT σ y <;> simp)
        · rw [e]
          simp only [List.mem_cons, List.not_mem_nil, or_false, exists_eq_or_imp, exists_eq_left, forall_eq_or_imp, forall_eq, g1, g2, x1, x2, y1, y2]
          cases hbx : litT σ x
          · left; left
            refine ⟨by omega, fun h => absurd rfl h, fun _ => ⟨by omega, rfl⟩⟩
          · cases hby : litT σ y
            · right; left; left
              refine ⟨by omega, fun h => absurd rfl h, fun _ => ⟨by omega, rfl⟩⟩
            · right; right; left
              refine ⟨by omega, fun h => absurd rfl h, fun _ => ⟨by omega, rfl⟩, fun _ => ⟨by omega, rfl⟩⟩

theorem or_good (hG : Good n σ F) {x y : Int} (hx : okLit F.vars x = true) (hy : okLit F.vars y = true) (hv : F.vars < 1048576) (hc : F.cls.length + 6 ≤ 1048576) :
    GateOk n σ F (orM F x y) (litT σ x || litT σ y) := by
  obtain ⟨h1, σ', h2, h3, h4⟩ := and_good hG (ok_neg hx) (ok_neg hy) hv hc
  refine ⟨h1, σ', h2, ok_neg h3, ?_⟩
  show litT σ' (-(andM F (-x) (-y)).1) = _
  rw [litT_neg _ (okLit_spec.1 h3).1, h4, litT_neg _ (okLit_spec.1 hx).1, litT_neg _ (okLit_spec.1 hy).1]
  cases litT σ x <;> cases litT σ y <;> rfl

theorem xor_good (hG : Good n σ F) {x y : Int} (hx : okLit F.vars x = true) (hy : okLit F.vars y = true) (hv : F.vars < 1048576) (hc : F.cls.length + 6 ≤ 1048576) :
    GateOk n σ F (xorM F x y) (litT σ x != litT σ y) := by
  have hall : hasAll F.vars [x, y] = true := by simp [hasAll, hx, hy]
  have sx := okLit_spec.1 hx
  have sy := okLit_spec.1 hy
  unfold xorM
  rw [hall]
  simp only [Bool.not_true, Bool.false_eq_true, if_false]
  split
  · rename_i h; subst h
    exact GateOk.old hG (ok_neg hG.ok1) (by rw [hG.tm1]; simp)
  · split
    · rename_i h; subst h
      exact GateOk.old hG hG.ok1 (by rw [hG.t1, litT_neg _ sy.1]; cases litT σ y <;> rfl)
    · split
      · rename_i h; subst h
        exact GateOk.old hG (ok_neg hy) (by rw [hG.t1, litT_neg _ sy.1]; cases litT σ y <;> rfl)
      · split
        · rename_i h; subst h
          exact GateOk.old hG hy (by rw [hG.tm1]; cases litT σ y <;> rfl)
        · split
          · rename_i h; subst h
            exact GateOk.old hG (ok_neg hx) (by rw [hG.t1, litT_neg _ sx.1]; cases litT σ x <;> rfl)
          · split
            · rename_i h; subst h
              exact GateOk.old hG hx (by rw [hG.tm1]; cases litT σ x <;> rfl)
            · obtain ⟨g1, g2⟩ := new_lit (σ := σ) (F := F) (litT σ x != litT σ y)
              obtain ⟨x1, x2⟩ := old_lit (σ := σ) (litT σ x != litT σ y) hx
              obtain ⟨y1, y2⟩ := old_lit (σ := σ) (litT σ x != litT σ y) hy
              have e : (gateTbl 1).map (inst (0 :: ((F.vars : Int) + 1) :: [x, y])) = [[-((F.vars : Int) + 1), x, y], [-((F.vars : Int) + 1), -x, -y], [(F.vars : Int) + 1, -x, y], [(F.vars : Int) + 1, x, -y]] := rfl
              have so : ∀ z : Int, z ≠ 0 ∧ z.natAbs ≤ F.vars + 1 → okLit (F.vars + 1 : Nat) z = true := fun z => okLit_spec.2
              refine GateOk.write hG 1 [x, y] _ hv hc (by decide) ?_ ?_
              · rw [e]
                simp only [List.mem_cons, List.not_mem_nil, or_false, forall_eq_or_imp, forall_eq, exists_eq_or_imp, exists_eq_left, g1, g2, x1, x2, y1, y2]
                refine ⟨⟨⟨by simp, by simp⟩, ⟨so _ (by omega), so _ (by omega), so _ (by omega)⟩, ?_⟩, ⟨⟨by simp, by simp⟩, ⟨so _ (by omega), so _ (by omega), so _ (by omega)⟩, ?_⟩, ⟨⟨by simp, by simp⟩, ⟨so _ (by omega), so _ (by omega), so _ (by omega)⟩, ?_⟩, ⟨⟨by simp, by simp⟩, ⟨so _ (by omega), so _ (by omega), so _ (by omega)⟩, ?_⟩⟩
                all_goals (cases litT σ x <;> cases litT σ y <;> simp)
              · rw [e]
                simp only [List.mem_cons, List.not_mem_nil, or_false, exists_eq_or_imp, exists_eq_left, forall_eq_or_imp, forall_eq, g1, g2, x1, x2, y1, y2]
                cases hbx : litT σ x <;> cases hby : litT σ y
                · left; left
                  exact ⟨by omega, fun h => absurd rfl h, fun _ => ⟨by omega, rfl⟩, fun _ => ⟨by omega, rfl⟩⟩
                · right; right; right; left
                  exact ⟨by omega, fun h => absurd rfl h, fun _ => ⟨by omega, rfl⟩, fun _ => ⟨by omega, rfl⟩⟩
                · right; right; left; left
                  exact ⟨by omega, fun h => absurd rfl h, fun _ => ⟨by omega, rfl⟩, fun _ => ⟨by omega, rfl⟩⟩
                · right; left; left
                  exact ⟨by omega, fun h => absurd rfl h, fun _ => ⟨by omega, rfl⟩, fun _ => ⟨by omega, rfl⟩⟩

theorem mux_good (hG : Good n σ F) {c x y : Int} (hcl : okLit F.vars c = true) (hx : okLit F.vars x = true) (hy : okLit F.vars y = true) (hv : F.vars < 1048576) (hc : F.cls.length + 6 ≤ 1048576) :
    GateOk n σ F (muxM F c x y) (if litT σ c then litT σ x else litT σ y) := by
  have hall : hasAll F.vars [c, x, y] = true := by simp [hasAll, hx, hy, hcl]
  have sc := okLit_spec.1 hcl
  have sx := okLit_spec.1 hx
  have sy := okLit_spec.1 hy
  unfold muxM
  rw [hall]
  simp only [Bool.not_true, Bool.false_eq_true, if_false]
  split
  · rename_i h
    refine GateOk.old hG hx ?_
    rcases h with rfl | rfl
    · rw [hG.t1]; simp
    · simp
  · split
    · rename_i h; subst h
      exact GateOk.old hG hy (by rw [hG.tm1]; simp)
    · obtain ⟨g1, g2⟩ := new_lit (σ := σ) (F := F) (if litT σ c then litT σ x else litT σ y)
      obtain ⟨c1, c2⟩ := old_lit (σ := σ) (if litT σ c then litT σ x else litT σ y) hcl
      obtain ⟨x1, x2⟩ := old_lit (σ := σ) (if litT σ c then litT σ x else litT σ y) hx
      obtain ⟨y1, y2⟩ := old_lit (σ := σ) (if litT σ c then litT σ x else litT σ y) hy
      have e : (gateTbl 2).map (inst (0 :: ((F.vars : Int) + 1) :: [c, x, y])) = [[-c, -x, (F.vars : Int) + 1], [-c, x, -((F.vars : Int) + 1)], [c, -y, (F.vars : Int) + 1], [c, y, -((F.vars : Int) + 1)], [-x, -y, (F.vars : Int) + 1], [x, y, -((F.vars : Int) + 1)]] := rfl
      have so : ∀ z : Int, z ≠ 0 ∧ z.natAbs ≤ F.vars + 1 → okLit (F.vars + 1 : Nat) z = true := fun z => okLit_spec.2
      refine GateOk.write hG 2 [c, x, y] _ hv hc (by decide) ?_ ?_
      · rw [e]
        simp only [List.mem_cons, List.not_mem_nil, or_false, forall_eq_or_imp, forall_eq, exists_eq_or_imp, exists_eq_left, g1, g2, c1, c2, x1, x2, y1, y2]
        refine ⟨⟨⟨by simp, by simp⟩, ⟨so _ (by omega), so _ (by omega), so _ (by omega)⟩, ?_⟩, ⟨⟨by simp, by simp⟩, ⟨so _ (by omega), so _ (by omega), so _ (by omega)⟩, ?_⟩, ⟨⟨by simp, by simp⟩, ⟨so _ (by omega), so _ (by omega), so _ (by omega)⟩, ?_⟩,
          ⟨⟨by simp, by simp⟩, ⟨so _ (by omega), so _ (by omega), so _ (by omega)⟩, ?_⟩, ⟨⟨by simp, by simp⟩, ⟨so _ (by omega), so _ (by omega), so _ (by omega)⟩, ?_⟩, ⟨⟨by simp, by simp⟩, ⟨so _ (by omega), so _ (by omega), so _ (by omega)⟩, ?_⟩⟩
        all_goals (cases litT σ c <;> cases litT σ x <;> cases litT σ y <;> simp)
      · rw [e]
        simp only [List.mem_cons, List.not_mem_nil, or_false, exists_eq_or_imp, exists_eq_left, forall_eq_or_imp, forall_eq, g1, g2, c1, c2, x1, x2, y1, y2]
        cases hbc : litT σ c
        · cases hby : litT σ y
          · right; right; right; left; right; right
            exact ⟨by omega, fun _ => ⟨by omega, rfl⟩, fun _ => ⟨by omega, rfl⟩, fun h => absurd rfl h⟩
          · right; right; left; right; right
            exact ⟨by omega, fun _ => ⟨by omega, rfl⟩, fun _ => ⟨by omega, rfl⟩, fun h => absurd rfl h⟩
        · cases hbx : litT σ x
          · right; left; right; right
            exact ⟨by omega, fun _ => ⟨by omega, rfl⟩, fun _ => ⟨by omega, rfl⟩, fun h => absurd rfl h⟩
          · left; right; right
            exact ⟨by omega, fun _ => ⟨by omega, rfl⟩, fun _ => ⟨by omega, rfl⟩, fun h => absurd rfl h⟩

/-- The formula of a circuit with n inputs, at first. -/
theorem begin_good (n : Nat) (σ : Nat → Bool) (h1 : σ 1 = true) : Good n σ ⟨n + 1, [[1]]⟩ := by
  refine ⟨h1, Nat.le_refl _, ?_, ?_, ?_, fun v hv hv' => ?_⟩
  · intro c hc; simp at hc; subst hc; simp
  · intro c hc x hx; simp at hc; subst hc; simp at hx; subst hx; exact okLit_spec.2 ⟨by decide, by show 1 ≤ n + 1; omega⟩
  · intro c hc; simp at hc; subst hc; exact ⟨1, by simp, by unfold litT; rw [show (1 : Int).natAbs = 1 from rfl, h1]; rfl⟩
  · have hv'' : v ≤ n + 1 := hv'
    by_cases e : v = 1
    · subst e; exact .inr ⟨[1], by simp, 1, by simp, rfl, fun y hy hne => by simp at hy; exact absurd hy hne⟩
    · exact .inl (by omega)
end

end Go.Proofs.YtjcnhnifageikaaDoor
