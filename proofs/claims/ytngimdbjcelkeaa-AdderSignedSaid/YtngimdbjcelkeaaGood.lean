/-
  The plain law of gates: what a gate adds keeps a formula decided, and its literal has the gate's value. No program in sight.
-/
import Derived.Test.YtngimdbjcelkeaaUnit
namespace Go.Proofs.Ytngimdbjcelkeaa
set_option linter.unusedSimpArgs false
set_option linter.unusedVariables false

theorem litT_neg (σ : Nat → Bool) {x : Int} (h : x ≠ 0) : litT σ (-x) = !litT σ x := by
  unfold litT
  rw [Int.natAbs_neg]
  by_cases hp : 0 < x
  · have : ¬ 0 < -x := by omega
    cases σ x.natAbs <;> simp [hp] <;> omega
  · have : 0 < -x := by omega
    cases σ x.natAbs <;> simp [hp] <;> omega
theorem okLit_spec {n : Nat} {x : Int} : okLit n x = true ↔ x ≠ 0 ∧ x.natAbs ≤ n := by
  unfold okLit
  simp only [Bool.not_eq_true', Bool.or_eq_false_iff, beq_eq_false_iff_ne, decide_eq_false_iff_not]
  omega
theorem litT_agree {σ σ' : Nat → Bool} {x : Int} (h : σ' x.natAbs = σ x.natAbs) : litT σ' x = litT σ x := by unfold litT; rw [h]

/-- σ with a value for one variable more. -/
def ext (σ : Nat → Bool) (g : Nat) (b : Bool) : Nat → Bool := fun v => if v = g then b else σ v
theorem ext_same (σ : Nat → Bool) (g : Nat) (b : Bool) : ext σ g b g = b := if_pos rfl
theorem ext_ne {σ : Nat → Bool} {g v : Nat} (b : Bool) (h : v ≠ g) : ext σ g b v = σ v := if_neg h

theorem Good.add {n : Nat} {σ : Nat → Bool} {F : Form} (hG : Good n σ F) (b : Bool) (cs : List (List Int))
    (h1 : ∀ c ∈ cs, (c ≠ [] ∧ c.length ≤ 4) ∧ (∀ x ∈ c, okLit (F.vars + 1 : Nat) x = true) ∧ ∃ x ∈ c, litT (ext σ (F.vars + 1) b) x = true)
    (h2 : ∃ c ∈ cs, ∃ x ∈ c, x.natAbs = F.vars + 1 ∧ ∀ y ∈ c, y ≠ x → y.natAbs < F.vars + 1 ∧ litT (ext σ (F.vars + 1) b) y = false) :
    Good n (ext σ (F.vars + 1) b) ⟨F.vars + 1, F.cls ++ cs⟩ := by
  have old : ∀ x, okLit F.vars x = true → litT (ext σ (F.vars + 1) b) x = litT σ x := fun x hx => litT_agree (ext_ne _ (by have := (okLit_spec.1 hx).2; omega))
  have hin := hG.inp
  refine ⟨by rw [ext_ne _ (by omega)]; exact hG.one, by show n + 1 ≤ F.vars + 1; omega, fun c hc => ?_, fun c hc x hx => ?_, fun c hc => ?_, fun v hv hv' => ?_⟩
  · rcases List.mem_append.1 hc with hc | hc
    · exact hG.len c hc
    · exact (h1 c hc).1
  · rcases List.mem_append.1 hc with hc | hc
    · have := okLit_spec.1 (hG.ok c hc x hx)
      exact okLit_spec.2 ⟨this.1, by show x.natAbs ≤ F.vars + 1; omega⟩
    · exact (h1 c hc).2.1 x hx
  · rcases List.mem_append.1 hc with hc | hc
    · obtain ⟨x, hx, ht⟩ := hG.sat c hc
      exact ⟨x, hx, by rw [old x (hG.ok c hc x hx)]; exact ht⟩
    · exact (h1 c hc).2.2
  · by_cases hvg : v = F.vars + 1
    · subst hvg
      obtain ⟨c, hc, x, hx, hxv, hy⟩ := h2
      exact .inr ⟨c, by simp [hc], x, hx, hxv, hy⟩
    · rcases hG.forced v hv (by have : v ≤ F.vars + 1 := hv'; omega) with h | ⟨c, hc, x, hx, hxv, hy⟩
      · exact .inl h
      · exact .inr ⟨c, by simp [hc], x, hx, hxv, fun y hy' hne => ⟨(hy y hy' hne).1, by rw [old y (hG.ok c hc y hy')]; exact (hy y hy' hne).2⟩⟩

/-- F' goes on from F: the values of old variables, and how much is new. -/
structure Ext (n : Nat) (σ : Nat → Bool) (F : Form) (σ' : Nat → Bool) (F' : Form) (dv dc : Nat) : Prop where
  good : Good n σ' F'
  old : ∀ v, v ≤ F.vars → σ' v = σ v
  v0 : F.vars ≤ F'.vars
  v1 : F'.vars ≤ F.vars + dv
  c0 : F.cls.length ≤ F'.cls.length
  c1 : F'.cls.length ≤ F.cls.length + dc
theorem Ext.refl {n : Nat} {σ : Nat → Bool} {F : Form} (h : Good n σ F) (dv dc : Nat) : Ext n σ F σ F dv dc := ⟨h, fun _ _ => rfl, Nat.le_refl _, by omega, Nat.le_refl _, by omega⟩
theorem Ext.trans {n : Nat} {σ σ' σ'' : Nat → Bool} {F F' F'' : Form} {a b c d e f : Nat} (h : Ext n σ F σ' F' a b) (k : Ext n σ' F' σ'' F'' c d) (he : a + c ≤ e) (hf : b + d ≤ f) : Ext n σ F σ'' F'' e f :=
  ⟨k.good, fun v hv => (k.old v (by have := h.v0; omega)).trans (h.old v hv), Nat.le_trans h.v0 k.v0, by have := h.v1; have := k.v1; omega, Nat.le_trans h.c0 k.c0, by have := h.c1; have := k.c1; omega⟩
theorem Ext.litT {n : Nat} {σ σ' : Nat → Bool} {F F' : Form} {a b : Nat} (h : Ext n σ F σ' F' a b) {x : Int} (hx : okLit F.vars x = true) : litT σ' x = litT σ x := litT_agree (h.old _ (okLit_spec.1 hx).2)
theorem Ext.ok {n : Nat} {σ σ' : Nat → Bool} {F F' : Form} {a b : Nat} (h : Ext n σ F σ' F' a b) {x : Int} (hx : okLit F.vars x = true) : okLit F'.vars x = true := by
  have := okLit_spec.1 hx
  exact okLit_spec.2 ⟨this.1, by have := h.v0; omega⟩

/-- A gate's answer: no error, a literal with value b. -/
def GateOk (n : Nat) (σ : Nat → Bool) (F : Form) (r : Out) (b : Bool) : Prop :=
  r.2.1 = 0 ∧ ∃ σ', Ext n σ F σ' r.2.2 1 6 ∧ okLit r.2.2.vars r.1 = true ∧ litT σ' r.1 = b

theorem Good.t1 {n : Nat} {σ : Nat → Bool} {F : Form} (hG : Good n σ F) : litT σ 1 = true := by
  unfold litT; rw [show (1 : Int).natAbs = 1 from rfl, hG.one]; rfl
theorem Good.tm1 {n : Nat} {σ : Nat → Bool} {F : Form} (hG : Good n σ F) : litT σ (-1) = false := by
  rw [litT_neg _ (by decide), hG.t1]; rfl
theorem Good.ok1 {n : Nat} {σ : Nat → Bool} {F : Form} (hG : Good n σ F) : okLit F.vars 1 = true := okLit_spec.2 ⟨by decide, by have := hG.inp; show 1 ≤ F.vars; omega⟩
theorem ok_neg {n : Nat} {x : Int} (h : okLit n x = true) : okLit n (-x) = true := by
  have := okLit_spec.1 h
  exact okLit_spec.2 (by omega)
theorem GateOk.old {n : Nat} {σ : Nat → Bool} {F : Form} (hG : Good n σ F) {x : Int} {b : Bool} (hx : okLit F.vars x = true) (hb : litT σ x = b) : GateOk n σ F (x, 0, F) b :=
  ⟨rfl, σ, Ext.refl hG _ _, hx, hb⟩
theorem GateOk.cast {n : Nat} {σ : Nat → Bool} {F : Form} {r : Out} {b b' : Bool} (h : GateOk n σ F r b) (e : b = b') : GateOk n σ F r b' := e ▸ h

/-- What a written gate must show. -/
theorem GateOk.write {n : Nat} {σ : Nat → Bool} {F : Form} (hG : Good n σ F) (k : Nat) (args : List Int) (b : Bool) (hv : F.vars < 1048576) (hc : F.cls.length + 6 ≤ 1048576) (hk : (gateTbl k).length ≤ 6)
    (h1 : ∀ c ∈ (gateTbl k).map (inst (0 :: ((F.vars : Int) + 1) :: args)), (c ≠ [] ∧ c.length ≤ 4) ∧ (∀ x ∈ c, okLit (F.vars + 1 : Nat) x = true) ∧ ∃ x ∈ c, litT (ext σ (F.vars + 1) b) x = true)
    (h2 : ∃ c ∈ (gateTbl k).map (inst (0 :: ((F.vars : Int) + 1) :: args)), ∃ x ∈ c, x.natAbs = F.vars + 1 ∧ ∀ y ∈ c, y ≠ x → y.natAbs < F.vars + 1 ∧ litT (ext σ (F.vars + 1) b) y = false) :
    GateOk n σ F (writeM F k args) b := by
  unfold writeM
  rw [if_neg (by omega)]
  refine ⟨rfl, _, ⟨hG.add b _ h1 h2, fun v hv => ext_ne _ (by omega), by show F.vars ≤ F.vars + 1; omega, Nat.le_refl _, by simp, by simp; omega⟩, okLit_spec.2 ⟨by show (F.vars : Int) + 1 ≠ 0; omega, by show ((F.vars : Int) + 1).natAbs ≤ F.vars + 1; omega⟩, ?_⟩
  show litT _ ((F.vars : Int) + 1) = b
  unfold litT
  rw [show ((F.vars : Int) + 1).natAbs = F.vars + 1 by omega, ext_same]
  have : 0 < (F.vars : Int) + 1 := by omega
  simp [this]

section
variable {n : Nat} {σ : Nat → Bool} {F : Form}

/-- The facts about the new literal and an old one that the clauses need. -/
theorem new_lit (b : Bool) : litT (ext σ (F.vars + 1) b) ((F.vars : Int) + 1) = b ∧ litT (ext σ (F.vars + 1) b) (-((F.vars : Int) + 1)) = !b := by
  have h : litT (ext σ (F.vars + 1) b) ((F.vars : Int) + 1) = b := by
    unfold litT
    rw [show ((F.vars : Int) + 1).natAbs = F.vars + 1 by omega, ext_same]
    have : 0 < (F.vars : Int) + 1 := by omega
    simp [this]
  exact ⟨h, by rw [litT_neg _ (by omega), h]⟩
theorem old_lit (b : Bool) {x : Int} (hx : okLit F.vars x = true) : litT (ext σ (F.vars + 1) b) x = litT σ x ∧ litT (ext σ (F.vars + 1) b) (-x) = !litT σ x := by
  have h : litT (ext σ (F.vars + 1) b) x = litT σ x := litT_agree (ext_ne _ (by have := (okLit_spec.1 hx).2; omega))
  exact ⟨h, by rw [litT_neg _ (okLit_spec.1 hx).1, h]⟩

theorem and_good (hG : Good n σ F) {x y : Int} (hx : okLit F.vars x = true) (hy : okLit F.vars y = true) (hv : F.vars < 1048576) (hc : F.cls.length + 6 ≤ 1048576) :
    GateOk n σ F (andM F x y) (litT σ x && litT σ y) := by
  have hall : hasAll F.vars [x, y] = true := by simp [hasAll, hx, hy]
  unfold andM
  rw [hall]
  simp only [Bool.not_true, Bool.false_eq_true, if_false]
  split
  · rename_i h
    refine GateOk.old hG hx ?_
    rcases h with rfl | rfl
    · simp
    · rw [hG.t1]; simp
  · split
    · rename_i h; subst h
      exact GateOk.old hG hy (by rw [hG.t1]; simp)
    · split
      · rename_i h
        refine GateOk.old hG (ok_neg hG.ok1) ?_
        rw [hG.tm1]
        rcases h with rfl | rfl | rfl
        · rw [litT_neg _ (okLit_spec.1 hy).1]; simp
        · rw [hG.tm1]; simp
        · rw [hG.tm1]; simp
      · have sx := okLit_spec.1 hx
        have sy := okLit_spec.1 hy
        obtain ⟨g1, g2⟩ := new_lit (σ := σ) (F := F) (litT σ x && litT σ y)
        obtain ⟨x1, x2⟩ := old_lit (σ := σ) (litT σ x && litT σ y) hx
        obtain ⟨y1, y2⟩ := old_lit (σ := σ) (litT σ x && litT σ y) hy
        have e : (gateTbl 0).map (inst (0 :: ((F.vars : Int) + 1) :: [x, y])) = [[-((F.vars : Int) + 1), x], [-((F.vars : Int) + 1), y], [(F.vars : Int) + 1, -x, -y]] := rfl
        have so : ∀ z : Int, z ≠ 0 ∧ z.natAbs ≤ F.vars + 1 → okLit (F.vars + 1 : Nat) z = true := fun z => okLit_spec.2
        refine GateOk.write hG 0 [x, y] _ hv hc (by decide) ?_ ?_
        · rw [e]
          simp only [List.mem_cons, List.not_mem_nil, or_false, forall_eq_or_imp, forall_eq, exists_eq_or_imp, exists_eq_left, g1, g2, x1, x2, y1, y2]
          refine ⟨⟨⟨by simp, by simp⟩, ⟨so _ (by omega), so _ (by omega)⟩, ?_⟩, ⟨⟨by simp, by simp⟩, ⟨so _ (by omega), so _ (by omega)⟩, ?_⟩, ⟨⟨by simp, by simp⟩, ⟨so _ (by omega), so _ (by omega), so _ (by omega)⟩, ?_⟩⟩
          all_goals (cases litT σ x <;> cases litT σ y <;> simp)
        · rw [e]
          simp only [List.mem_cons, List.not_mem_nil, or_false, exists_eq_or_imp, exists_eq_left, forall_eq_or_imp, forall_eq, g1, g2, x1, x2, y1, y2]
          cases hbx : litT σ x
          · left; left
            refine ⟨by omega, fun h => absurd rfl h, fun _ => ⟨by omega, rfl⟩⟩
          · cases hby : litT σ y
            · right; left; left
              refine ⟨by omega, fun h => absurd rfl h, fun _ => ⟨by omega, rfl⟩⟩
            · right; right; left
              refine ⟨by omega, fun h => absurd rfl h, fun _ => ⟨by omega, rfl⟩, fun _ => ⟨by omega, rfl⟩⟩

theorem or_good (hG : Good n σ F) {x y : Int} (hx : okLit F.vars x = true) (hy : okLit F.vars y = true) (hv : F.vars < 1048576) (hc : F.cls.length + 6 ≤ 1048576) :
    GateOk n σ F (orM F x y) (litT σ x || litT σ y) := by
  obtain ⟨h1, σ', h2, h3, h4⟩ := and_good hG (ok_neg hx) (ok_neg hy) hv hc
  refine ⟨h1, σ', h2, ok_neg h3, ?_⟩
  show litT σ' (-(andM F (-x) (-y)).1) = _
  rw [litT_neg _ (okLit_spec.1 h3).1, h4, litT_neg _ (okLit_spec.1 hx).1, litT_neg _ (okLit_spec.1 hy).1]
  cases litT σ x <;> cases litT σ y <;> rfl

theorem xor_good (hG : Good n σ F) {x y : Int} (hx : okLit F.vars x = true) (hy : okLit F.vars y = true) (hv : F.vars < 1048576) (hc : F.cls.length + 6 ≤ 1048576) :
    GateOk n σ F (xorM F x y) (litT σ x != litT σ y) := by
  have hall : hasAll F.vars [x, y] = true := by simp [hasAll, hx, hy]
  have sx := okLit_spec.1 hx
  have sy := okLit_spec.1 hy
  unfold xorM
  rw [hall]
  simp only [Bool.not_true, Bool.false_eq_true, if_false]
  split
  · rename_i h; subst h
    exact GateOk.old hG (ok_neg hG.ok1) (by rw [hG.tm1]; simp)
  · split
    · rename_i h; subst h
      exact GateOk.old hG hG.ok1 (by rw [hG.t1, litT_neg _ sy.1]; cases litT σ y <;> rfl)
    · split
      · rename_i h; subst h
        exact GateOk.old hG (ok_neg hy) (by rw [hG.t1, litT_neg _ sy.1]; cases litT σ y <;> rfl)
      · split
        · rename_i h; subst h
          exact GateOk.old hG hy (by rw [hG.tm1]; cases litT σ y <;> rfl)
        · split
          · rename_i h; subst h
            exact GateOk.old hG (ok_neg hx) (by rw [hG.t1, litT_neg _ sx.1]; cases litT σ x <;> rfl)
          · split
            · rename_i h; subst h
              exact GateOk.old hG hx (by rw [hG.tm1]; cases litT σ x <;> rfl)
            · obtain ⟨g1, g2⟩ := new_lit (σ := σ) (F := F) (litT σ x != litT σ y)
              obtain ⟨x1, x2⟩ := old_lit (σ := σ) (litT σ x != litT σ y) hx
              obtain ⟨y1, y2⟩ := old_lit (σ := σ) (litT σ x != litT σ y) hy
              have e : (gateTbl 1).map (inst (0 :: ((F.vars : Int) + 1) :: [x, y])) = [[-((F.vars : Int) + 1), x, y], [-((F.vars : Int) + 1), -x, -y], [(F.vars : Int) + 1, -x, y], [(F.vars : Int) + 1, x, -y]] := rfl
              have so : ∀ z : Int, z ≠ 0 ∧ z.natAbs ≤ F.vars + 1 → okLit (F.vars + 1 : Nat) z = true := fun z => okLit_spec.2
              refine GateOk.write hG 1 [x, y] _ hv hc (by decide) ?_ ?_
              · rw [e]
                simp only [List.mem_cons, List.not_mem_nil, or_false, forall_eq_or_imp, forall_eq, exists_eq_or_imp, exists_eq_left, g1, g2, x1, x2, y1, y2]
                refine ⟨⟨⟨by simp, by simp⟩, ⟨so _ (by omega), so _ (by omega), so _ (by omega)⟩, ?_⟩, ⟨⟨by simp, by simp⟩, ⟨so _ (by omega), so _ (by omega), so _ (by omega)⟩, ?_⟩, ⟨⟨by simp, by simp⟩, ⟨so _ (by omega), so _ (by omega), so _ (by omega)⟩, ?_⟩, ⟨⟨by simp, by simp⟩, ⟨so _ (by omega), so _ (by omega), so _ (by omega)⟩, ?_⟩⟩
                all_goals (cases litT σ x <;> cases litT σ y <;> simp)
              · rw [e]
                simp only [List.mem_cons, List.not_mem_nil, or_false, exists_eq_or_imp, exists_eq_left, forall_eq_or_imp, forall_eq, g1, g2, x1, x2, y1, y2]
                cases hbx : litT σ x <;> cases hby : litT σ y
                · left; left
                  exact ⟨by omega, fun h => absurd rfl h, fun _ => ⟨by omega, rfl⟩, fun _ => ⟨by omega, rfl⟩⟩
                · right; right; right; left
                  exact ⟨by omega, fun h => absurd rfl h, fun _ => ⟨by omega, rfl⟩, fun _ => ⟨by omega, rfl⟩⟩
                · right; right; left; left
                  exact ⟨by omega, fun h => absurd rfl h, fun _ => ⟨by omega, rfl⟩, fun _ => ⟨by omega, rfl⟩⟩
                · right; left; left
                  exact ⟨by omega, fun h => absurd rfl h, fun _ => ⟨by omega, rfl⟩, fun _ => ⟨by omega, rfl⟩⟩

theorem mux_good (hG : Good n σ F) {c x y : Int} (hcl : okLit F.vars c = true) (hx : okLit F.vars x = true) (hy : okLit F.vars y = true) (hv : F.vars < 1048576) (hc : F.cls.length + 6 ≤ 1048576) :
    GateOk n σ F (muxM F c x y) (if litT σ c then litT σ x else litT σ y) := by
  have hall : hasAll F.vars [c, x, y] = true := by simp [hasAll, hx, hy, hcl]
  have sc := okLit_spec.1 hcl
  have sx := okLit_spec.1 hx
  have sy := okLit_spec.1 hy
  unfold muxM
  rw [hall]
  simp only [Bool.not_true, Bool.false_eq_true, if_false]
  split
  · rename_i h
    refine GateOk.old hG hx ?_
    rcases h with rfl | rfl
    · rw [hG.t1]; simp
    · simp
  · split
    · rename_i h; subst h
      exact GateOk.old hG hy (by rw [hG.tm1]; simp)
    · obtain ⟨g1, g2⟩ := new_lit (σ := σ) (F := F) (if litT σ c then litT σ x else litT σ y)
      obtain ⟨c1, c2⟩ := old_lit (σ := σ) (if litT σ c then litT σ x else litT σ y) hcl
      obtain ⟨x1, x2⟩ := old_lit (σ := σ) (if litT σ c then litT σ x else litT σ y) hx
      obtain ⟨y1, y2⟩ := old_lit (σ := σ) (if litT σ c then litT σ x else litT σ y) hy
      have e : (gateTbl 2).map (inst (0 :: ((F.vars : Int) + 1) :: [c, x, y])) = [[-c, -x, (F.vars : Int) + 1], [-c, x, -((F.vars : Int) + 1)], [c, -y, (F.vars : Int) + 1], [c, y, -((F.vars : Int) + 1)], [-x, -y, (F.vars : Int) + 1], [x, y, -((F.vars : Int) + 1)]] := rfl
      have so : ∀ z : Int, z ≠ 0 ∧ z.natAbs ≤ F.vars + 1 → okLit (F.vars + 1 : Nat) z = true := fun z => okLit_spec.2
      refine GateOk.write hG 2 [c, x, y] _ hv hc (by decide) ?_ ?_
      · rw [e]
        simp only [List.mem_cons, List.not_mem_nil, or_false, forall_eq_or_imp, forall_eq, exists_eq_or_imp, exists_eq_left, g1, g2, c1, c2, x1, x2, y1, y2]
        refine ⟨⟨⟨by simp, by simp⟩, ⟨so _ (by omega), so _ (by omega), so _ (by omega)⟩, ?_⟩, ⟨⟨by simp, by simp⟩, ⟨so _ (by omega), so _ (by omega), so _ (by omega)⟩, ?_⟩, ⟨⟨by simp, by simp⟩, ⟨so _ (by omega), so _ (by omega), so _ (by omega)⟩, ?_⟩,
          ⟨⟨by simp, by simp⟩, ⟨so _ (by omega), so _ (by omega), so _ (by omega)⟩, ?_⟩, ⟨⟨by simp, by simp⟩, ⟨so _ (by omega), so _ (by omega), so _ (by omega)⟩, ?_⟩, ⟨⟨by simp, by simp⟩, ⟨so _ (by omega), so _ (by omega), so _ (by omega)⟩, ?_⟩⟩
        all_goals (cases litT σ c <;> cases litT σ x <;> cases litT σ y <;> simp)
      · rw [e]
        simp only [List.mem_cons, List.not_mem_nil, or_false, exists_eq_or_imp, exists_eq_left, forall_eq_or_imp, forall_eq, g1, g2, c1, c2, x1, x2, y1, y2]
        cases hbc : litT σ c
        · cases hby : litT σ y
          · right; right; right; left; right; right
            exact ⟨by omega, fun _ => ⟨by omega, rfl⟩, fun _ => ⟨by omega, rfl⟩, fun h => absurd rfl h⟩
          · right; right; left; right; right
            exact ⟨by omega, fun _ => ⟨by omega, rfl⟩, fun _ => ⟨by omega, rfl⟩, fun h => absurd rfl h⟩
        · cases hbx : litT σ x
          · right; left; right; right
            exact ⟨by omega, fun _ => ⟨by omega, rfl⟩, fun _ => ⟨by omega, rfl⟩, fun h => absurd rfl h⟩
          · left; right; right
            exact ⟨by omega, fun _ => ⟨by omega, rfl⟩, fun _ => ⟨by omega, rfl⟩, fun h => absurd rfl h⟩

/-- The formula of a circuit with n inputs, at first. -/
theorem begin_good (n : Nat) (σ : Nat → Bool) (h1 : σ 1 = true) : Good n σ ⟨n + 1, [[1]]⟩ := by
  refine ⟨h1, Nat.le_refl _, ?_, ?_, ?_, fun v hv hv' => ?_⟩
  · intro c hc; simp at hc; subst hc; simp
  · intro c hc x hx; simp at hc; subst hc; simp at hx; subst hx; exact okLit_spec.2 ⟨by decide, by show 1 ≤ n + 1; omega⟩
  · intro c hc; simp at hc; subst hc; exact ⟨1, by simp, by unfold litT; rw [show (1 : Int).natAbs = 1 from rfl, h1]; rfl⟩
  · have hv'' : v ≤ n + 1 := hv'
    by_cases e : v = 1
    · subst e; exact .inr ⟨[1], by simp, 1, by simp, rfl, fun y hy hne => by simp at hy; exact absurd hy hne⟩
    · exact .inl (by omega)
end

end Go.Proofs.Ytngimdbjcelkeaa
