/-
  The plain law of package adder: what its functions come to, over a formula that says its values. No program in sight.
-/
import Derived.Test.YtjcnhnifageikaaDoorGood
import Derived.Test.YtjcnhnifageikaaDoorAdd6
namespace Go.Proofs.YtjcnhnifageikaaDoor
set_option linter.unusedSimpArgs false
set_option linter.unusedVariables false

/-! ### words of bits -/
def addB : List Bool → List Bool → Bool → List Bool
  | x :: xs, y :: ys, c => ((x != y) != c) :: addB xs ys (if x != y then c else x)
  | _, _, _ => []
def chooseB (c : Bool) (x y : List Bool) : List Bool := if c then x else y
def lessB : List Bool → List Bool → Bool → Bool
  | x :: xs, y :: ys, acc => lessB xs ys (if x != y then y else acc)
  | _, _, acc => acc
def diffB : List Bool → List Bool → Bool → Bool
  | x :: xs, y :: ys, acc => diffB xs ys (acc || (x != y))
  | _, _, acc => acc

theorem addB_len : ∀ (xs ys : List Bool) (c : Bool), xs.length = ys.length → (addB xs ys c).length = xs.length
  | [], [], _, _ => rfl
  | x :: xs, y :: ys, c, h => by simp [addB, addB_len xs ys _ (by simpa using h)]
  | [], _ :: _, _, h => by simp at h
  | _ :: _, [], _, h => by simp at h

/-! ### what a chain of gates comes to -/
/-- The state s is without an error, and goes on from F0. -/
structure StOk (n : Nat) (σ0 : Nat → Bool) (F0 : Form) (s : MS) (σ : Nat → Bool) (dv dc : Nat) : Prop where
  e : s.2 = 0
  x : Ext n σ0 F0 σ s.1 dv dc

section
variable {n : Nat} {σ0 σ : Nat → Bool} {F0 : Form} {s : MS} {dv dc : Nat}

theorem StOk.start (h : Good n σ0 F0) : StOk n σ0 F0 (F0, 0) σ0 0 0 := ⟨rfl, Ext.refl h _ _⟩
theorem StOk.good (h : StOk n σ0 F0 s σ dv dc) : Good n σ s.1 := h.x.good
theorem StOk.mono (h : StOk n σ0 F0 s σ dv dc) {dv' dc' : Nat} (h1 : dv ≤ dv') (h2 : dc ≤ dc') : StOk n σ0 F0 s σ dv' dc' :=
  ⟨h.e, h.x.good, h.x.old, h.x.v0, by have := h.x.v1; omega, h.x.c0, by have := h.x.c1; omega⟩

theorem StOk.gate {g : Form → Out} {b : Bool} (h : StOk n σ0 F0 s σ dv dc) (hg : GateOk n σ s.1 (g s.1) b) :
    ∃ σ', StOk n σ0 F0 (mkM g s).2 σ' (dv + 1) (dc + 6) ∧ Ext n σ s.1 σ' (mkM g s).2.1 1 6 ∧ okLit (mkM g s).2.1.vars (mkM g s).1 = true ∧ litT σ' (mkM g s).1 = b := by
  have e : mkM g s = ((g s.1).1, ((g s.1).2.2, (g s.1).2.1)) := by unfold mkM; rw [if_neg (by simp [h.e])]
  rw [e]
  obtain ⟨h0, σ', hx, ho, hl⟩ := hg
  exact ⟨σ', ⟨h0, h.x.trans hx (Nat.le_refl _) (Nat.le_refl _)⟩, hx, ho, hl⟩

theorem StOk.room (h : StOk n σ0 F0 s σ dv dc) {k : Nat} (hv : F0.vars + dv + k < 1048576) (hc : F0.cls.length + dc + k * 6 + 6 ≤ 1048576) : s.1.vars + k < 1048576 ∧ s.1.cls.length + k * 6 + 6 ≤ 1048576 := by
  have := h.x.v1; have := h.x.c1; omega

theorem full_good (h : StOk n σ0 F0 s σ dv dc) {c p q : Int} (hc : okLit s.1.vars c = true) (hp : okLit s.1.vars p = true) (hq : okLit s.1.vars q = true)
    (hv : s.1.vars + 2 < 1048576) (hk : s.1.cls.length + 18 ≤ 1048576) :
    ∃ σ', StOk n σ0 F0 (fullM s c p q).2.2 σ' (dv + 3) (dc + 18) ∧ Ext n σ s.1 σ' (fullM s c p q).2.2.1 3 18 ∧
      okLit (fullM s c p q).2.2.1.vars (fullM s c p q).1 = true ∧ litT σ' (fullM s c p q).1 = ((litT σ p != litT σ q) != litT σ c) ∧
      okLit (fullM s c p q).2.2.1.vars (fullM s c p q).2.1 = true ∧ litT σ' (fullM s c p q).2.1 = (if (litT σ p != litT σ q) then litT σ c else litT σ p) := by
  obtain ⟨σ1, h1, x1, o1, l1⟩ := h.gate (g := fun F => xorM F p q) (xor_good h.good hp hq (by omega) (by omega))
  have a1 := x1.v1; have a2 := x1.c1
  obtain ⟨σ2, h2, x2, o2, l2⟩ := h1.gate (g := fun F => xorM F (mkM (fun F => xorM F p q) s).1 c) (xor_good h1.good o1 (x1.ok hc) (by omega) (by omega))
  have b1 := x2.v1; have b2 := x2.c1
  obtain ⟨σ3, h3, x3, o3, l3⟩ := h2.gate (g := fun F => muxM F (mkM (fun F => xorM F p q) s).1 c p) (mux_good h2.good (x2.ok o1) (x2.ok (x1.ok hc)) (x2.ok (x1.ok hp)) (by omega) (by omega))
  refine ⟨σ3, h3, (x1.trans x2 (Nat.le_refl _) (Nat.le_refl _)).trans x3 (by omega) (by omega), x3.ok o2, ?_, o3, ?_⟩
  · refine (x3.litT o2).trans (l2.trans ?_)
    rw [l1, x1.litT hc]
  · refine l3.trans ?_
    rw [x2.litT o1, l1, x2.litT (x1.ok hc), x1.litT hc, x2.litT (x1.ok hp), x1.litT hp]

theorem addF_good (l : List (Int × Int)) : ∀ (st : List Int × Int × MS) (σ : Nat → Bool) (dv dc : Nat), StOk n σ0 F0 st.2.2 σ dv dc → (∀ x ∈ l, okLit F0.vars x.1 = true ∧ okLit F0.vars x.2 = true) →
    okLit st.2.2.1.vars st.2.1 = true → (∀ x ∈ st.1, okLit st.2.2.1.vars x = true) → F0.vars + dv + 3 * l.length < 1048576 → F0.cls.length + dc + 18 * l.length ≤ 1048576 →
    ∃ σ', StOk n σ0 F0 (l.foldl addStep st).2.2 σ' (dv + 3 * l.length) (dc + 18 * l.length) ∧ (∀ x ∈ (l.foldl addStep st).1, okLit (l.foldl addStep st).2.2.1.vars x = true) ∧
      (l.foldl addStep st).1.map (litT σ') = st.1.map (litT σ) ++ addB (l.map fun x => litT σ0 x.1) (l.map fun x => litT σ0 x.2) (litT σ st.2.1) := by
  induction l with
  | nil => intro st σ dv dc h _ hc ho _ _; exact ⟨σ, h, ho, by simp [addB]⟩
  | cons x l ih =>
    intro st σ dv dc h hl hc ho hv hk
    simp only [List.length_cons] at hv hk
    obtain ⟨hp, hq⟩ := hl x (by simp)
    have hx := h.x
    have hx1 := hx.v1; have hx2 := hx.c1
    obtain ⟨σ1, h1, x1, o1, l1, o2, l2⟩ := full_good h hc (hx.ok hp) (hx.ok hq) (by omega) (by omega)
    have hst : addStep st x = (st.1 ++ [(fullM st.2.2 st.2.1 x.1 x.2).1], (fullM st.2.2 st.2.1 x.1 x.2).2.1, (fullM st.2.2 st.2.1 x.1 x.2).2.2) := rfl
    rw [List.foldl_cons, hst]
    generalize fullM st.2.2 st.2.1 x.1 x.2 = r at *
    obtain ⟨σ', h2, o3, l3⟩ := ih (st.1 ++ [r.1], r.2.1, r.2.2) σ1 (dv + 3) (dc + 18) h1 (fun y hy => hl y (by simp [hy])) o2 (fun y hy => by
      rcases List.mem_append.1 hy with hy | hy
      · exact x1.ok (ho y hy)
      · simp at hy; rw [hy]; exact o1) (by omega) (by omega)
    refine ⟨σ', h2.mono (by rw [List.length_cons]; omega) (by rw [List.length_cons]; omega), o3, ?_⟩
    rw [l3]
    simp only [List.map_append, List.map_cons, List.map_nil, addB, List.append_assoc, List.cons_append, List.nil_append]
    rw [l1, l2, hx.litT hp, hx.litT hq]
    congr 1
    exact List.map_congr_left fun y hy => x1.litT (ho y hy)
end

/-- A word's answer: no error, literals with these values. -/
def WordOk (n : Nat) (σ : Nat → Bool) (F : Form) (r : WOut) (bs : List Bool) (dv dc : Nat) : Prop :=
  r.2.1 = 0 ∧ ∃ σ', Ext n σ F σ' r.2.2 dv dc ∧ (∀ x ∈ r.1, okLit r.2.2.vars x = true) ∧ r.1.map (litT σ') = bs
/-- A literal's answer. -/
def LitOk (n : Nat) (σ : Nat → Bool) (F : Form) (r : Out) (b : Bool) (dv dc : Nat) : Prop :=
  r.2.1 = 0 ∧ ∃ σ', Ext n σ F σ' r.2.2 dv dc ∧ okLit r.2.2.vars r.1 = true ∧ litT σ' r.1 = b

theorem hasAll_of {n : Nat} {l : List Int} (h : ∀ x ∈ l, okLit n x = true) : hasAll n l = true := List.all_eq_true.2 h
theorem hasAll_mem {n : Nat} {l : List Int} (h : hasAll n l = true) : ∀ x ∈ l, okLit n x = true := List.all_eq_true.1 h

theorem check_ok {F : Form} {single : List Int} {words : List (List Int)} (h1 : ∀ l ∈ words, 1 ≤ l.length ∧ l.length ≤ 64 ∧ l.length = (words.headD []).length) (h2 : ∀ l ∈ single :: words, ∀ x ∈ l, okLit F.vars x = true) : checkM F single words = 0 := by
  unfold checkM
  rw [if_pos (List.all_eq_true.2 fun l hl => by
    obtain ⟨a, b, c⟩ := h1 l hl
    unfold goodLen
    simp only [Bool.and_eq_true, decide_eq_true_eq, beq_iff_eq]
    exact ⟨a, b, c⟩), if_pos (List.all_eq_true.2 fun l hl => hasAll_of (h2 l hl))]

theorem zip_lits {xs ys : List Int} {P : Int → Prop} (hx : ∀ x ∈ xs, P x) (hy : ∀ y ∈ ys, P y) : ∀ z ∈ xs.zip ys, P z.1 ∧ P z.2 := fun z hz => by
  have := List.of_mem_zip hz
  exact ⟨hx _ this.1, hy _ this.2⟩
theorem zip_fst {xs ys : List Int} (h : ys.length = xs.length) (f : Int → Bool) : ((xs.zip ys).map fun x => f x.1) = xs.map f := by
  have : ((xs.zip ys).map Prod.fst).map f = xs.map f := by rw [List.map_fst_zip (by omega)]
  rw [List.map_map] at this; exact this
theorem zip_snd {xs ys : List Int} (h : ys.length = xs.length) (f : Int → Bool) : ((xs.zip ys).map fun x => f x.2) = ys.map f := by
  have : ((xs.zip ys).map Prod.snd).map f = ys.map f := by rw [List.map_snd_zip (by omega)]
  rw [List.map_map] at this; exact this

theorem add_good {n : Nat} {σ : Nat → Bool} {F : Form} {xs ys : List Int} {c : Int} (hG : Good n σ F) (h1 : 1 ≤ xs.length) (h64 : xs.length ≤ 64) (hl : ys.length = xs.length)
    (hc : okLit F.vars c = true) (hx : ∀ x ∈ xs, okLit F.vars x = true) (hy : ∀ y ∈ ys, okLit F.vars y = true) (hv : F.vars + 3 * xs.length < 1048576) (hk : F.cls.length + 18 * xs.length ≤ 1048576) :
    WordOk n σ F (addM F xs ys c) (addB (xs.map (litT σ)) (ys.map (litT σ)) (litT σ c)) (3 * xs.length) (18 * xs.length) := by
  have e : checkM F [c] [xs, ys] = 0 := check_ok (fun l hl' => by
    simp only [List.mem_cons, List.not_mem_nil, or_false] at hl'
    rcases hl' with rfl | rfl <;> simp <;> omega) (fun l hl' x hx' => by
    simp only [List.mem_cons, List.not_mem_nil, or_false] at hl'
    rcases hl' with rfl | rfl | rfl
    · simp at hx'; rw [hx']; exact hc
    · exact hx x hx'
    · exact hy x hx')
  have hz : (xs.zip ys).length = xs.length := by rw [List.length_zip]; omega
  obtain ⟨σ', h2, o, l⟩ := addF_good (n := n) (σ0 := σ) (F0 := F) (xs.zip ys) ([], c, (F, 0)) σ 0 0 (StOk.start hG) (zip_lits hx hy) hc (by simp) (by omega) (by omega)
  have e2 : addM F xs ys c = ((addF (F, 0) c (xs.zip ys)).1, 0, (addF (F, 0) c (xs.zip ys)).2.2.1) := by
    unfold addM; rw [if_pos e]; exact if_pos h2.e
  rw [e2]
  refine ⟨rfl, σ', ?_, o, ?_⟩
  · have := h2.x; rw [hz, Nat.zero_add, Nat.zero_add] at this; exact this
  · rw [zip_fst hl, zip_snd hl] at l
    exact l

/-! ### the other functions -/
def wordM (st : List Int × MS) : WOut := if st.2.2 = 0 then (st.1, 0, st.2.1) else ([], st.2.2, st.2.1)
def litM (x : Int) (s : MS) : Out := if s.2 = 0 then (x, 0, s.1) else (0, s.2, s.1)
def chStep (c : Int) (st : List Int × MS) (pq : Int × Int) : List Int × MS :=
  let r := mkM (fun F => muxM F c pq.1 pq.2) st.2
  (st.1 ++ [r.1], r.2)
def eqStep (st : Int × MS) (pq : Int × Int) : Int × MS :=
  let r := mkM (fun F => xorM F pq.1 pq.2) st.2
  mkM (fun F => orM F st.1 r.1) r.2
def lsStep (st : Int × MS) (pq : Int × Int) : Int × MS :=
  let r := mkM (fun F => xorM F pq.1 pq.2) st.2
  mkM (fun F => muxM F r.1 pq.2 st.1) r.2
def anStep (st : Int × MS) (p : Int) : Int × MS := mkM (fun F => orM F st.1 p) st.2
def chooseM (F : Form) (c : Int) (xs ys : List Int) : WOut :=
  if checkM F [c] [xs, ys] = 0 then wordM ((xs.zip ys).foldl (chStep c) ([], (F, 0))) else ([], checkM F [c] [xs, ys], F)
def equalM (F : Form) (xs ys : List Int) : Out :=
  if checkM F [] [xs, ys] = 0 then litM (-((xs.zip ys).foldl eqStep (-1, (F, 0))).1) ((xs.zip ys).foldl eqStep (-1, (F, 0))).2 else (0, checkM F [] [xs, ys], F)
def turnM (l : List Int) : List Int := l.set (l.length - 1) (-(l.getD (l.length - 1) 0))
def lessM (F : Form) (xs ys : List Int) (signed : Bool) : Out :=
  if checkM F [] [xs, ys] = 0 then
    let l := if signed then (turnM xs).zip (turnM ys) else xs.zip ys
    litM (l.foldl lsStep (-1, (F, 0))).1 (l.foldl lsStep (-1, (F, 0))).2
  else (0, checkM F [] [xs, ys], F)
def anyM (F : Form) (xs : List Int) : Out :=
  if checkM F [] [xs] = 0 then litM (xs.foldl anStep (-1, (F, 0))).1 (xs.foldl anStep (-1, (F, 0))).2 else (0, checkM F [] [xs], F)
def subM (F : Form) (xs ys : List Int) : WOut := if checkM F [] [xs, ys] = 0 then addM F xs (ys.map (-·)) 1 else ([], checkM F [] [xs, ys], F)

/-- A scalar that is folded. -/
theorem scal_good {n : Nat} {α β : Type} {σ0 : Nat → Bool} {F0 : Form} (step : Int × MS → α → Int × MS) (P : α → Prop) (val : α → β) (h : Bool → β → Bool)
    (hs : ∀ (st : Int × MS) (σ : Nat → Bool) (dv dc : Nat) (a : α), P a → StOk n σ0 F0 st.2 σ dv dc → okLit st.2.1.vars st.1 = true → F0.vars + dv + 2 < 1048576 → F0.cls.length + dc + 12 ≤ 1048576 →
      ∃ σ', StOk n σ0 F0 (step st a).2 σ' (dv + 2) (dc + 12) ∧ okLit (step st a).2.1.vars (step st a).1 = true ∧ litT σ' (step st a).1 = h (litT σ st.1) (val a)) (l : List α) :
    ∀ (st : Int × MS) (σ : Nat → Bool) (dv dc : Nat), (∀ a ∈ l, P a) → StOk n σ0 F0 st.2 σ dv dc → okLit st.2.1.vars st.1 = true → F0.vars + dv + 2 * l.length < 1048576 → F0.cls.length + dc + 12 * l.length ≤ 1048576 →
      ∃ σ', StOk n σ0 F0 (l.foldl step st).2 σ' (dv + 2 * l.length) (dc + 12 * l.length) ∧ okLit (l.foldl step st).2.1.vars (l.foldl step st).1 = true ∧ litT σ' (l.foldl step st).1 = (l.map val).foldl h (litT σ st.1) := by
  induction l with
  | nil => intro st σ dv dc _ h1 h2 _ _; exact ⟨σ, h1, h2, rfl⟩
  | cons x l ih =>
    intro st σ dv dc hP h1 h2 hv hk
    simp only [List.length_cons] at hv hk
    obtain ⟨σ1, a1, a2, a3⟩ := hs st σ dv dc x (hP x (by simp)) h1 h2 (by omega) (by omega)
    obtain ⟨σ2, b1, b2, b3⟩ := ih (step st x) σ1 (dv + 2) (dc + 12) (fun a ha => hP a (by simp [ha])) a1 a2 (by omega) (by omega)
    exact ⟨σ2, b1.mono (by rw [List.length_cons]; omega) (by rw [List.length_cons]; omega), b2, by rw [List.map_cons, List.foldl_cons, List.foldl_cons, ← a3]; exact b3⟩

theorem check_words {F : Form} {single xs ys : List Int} (h1 : 1 ≤ xs.length) (h64 : xs.length ≤ 64) (hl : ys.length = xs.length)
    (hc : ∀ x ∈ single, okLit F.vars x = true) (hx : ∀ x ∈ xs, okLit F.vars x = true) (hy : ∀ y ∈ ys, okLit F.vars y = true) : checkM F single [xs, ys] = 0 :=
  check_ok (fun l hl' => by
    simp only [List.mem_cons, List.not_mem_nil, or_false] at hl'
    rcases hl' with rfl | rfl <;> simp <;> omega) (fun l hl' x hx' => by
    simp only [List.mem_cons, List.not_mem_nil, or_false] at hl'
    rcases hl' with rfl | rfl | rfl
    · exact hc x hx'
    · exact hx x hx'
    · exact hy x hx')

theorem litM_ok {n : Nat} {σ σ' : Nat → Bool} {F : Form} {st : Int × MS} {dv dc : Nat} (h : StOk n σ F st.2 σ' dv dc) (ho : okLit st.2.1.vars st.1 = true) : LitOk n σ F (litM st.1 st.2) (litT σ' st.1) dv dc := by
  unfold litM; rw [if_pos h.e]; exact ⟨rfl, σ', h.x, ho, rfl⟩
theorem lit_ne {n : Nat} {x : Int} (h : okLit n x = true) : x ≠ 0 := (okLit_spec.1 h).1

section
variable {n : Nat} {σ : Nat → Bool} {F : Form} {xs ys : List Int}

theorem choose_fold (c : Int) (l : List (Int × Int)) : ∀ (st : List Int × MS) (σ' : Nat → Bool) (dv dc : Nat), StOk n σ F st.2 σ' dv dc → (∀ x ∈ l, okLit F.vars x.1 = true ∧ okLit F.vars x.2 = true) →
    okLit F.vars c = true → (∀ x ∈ st.1, okLit st.2.1.vars x = true) → F.vars + dv + l.length < 1048576 → F.cls.length + dc + 6 * l.length ≤ 1048576 →
    ∃ σ'', StOk n σ F (l.foldl (chStep c) st).2 σ'' (dv + l.length) (dc + 6 * l.length) ∧ (∀ x ∈ (l.foldl (chStep c) st).1, okLit (l.foldl (chStep c) st).2.1.vars x = true) ∧
      (l.foldl (chStep c) st).1.map (litT σ'') = st.1.map (litT σ') ++ l.map (fun x => if litT σ c then litT σ x.1 else litT σ x.2) := by
  induction l with
  | nil => intro st σ' dv dc h _ _ ho _ _; exact ⟨σ', h, ho, by simp⟩
  | cons x l ih =>
    intro st σ' dv dc h hl hc ho hv hk
    simp only [List.length_cons] at hv hk
    obtain ⟨hp, hq⟩ := hl x (by simp)
    have hx := h.x
    have hx1 := hx.v1; have hx2 := hx.c1
    obtain ⟨σ1, h1, x1, o1, l1⟩ := h.gate (g := fun F => muxM F c x.1 x.2) (mux_good h.good (hx.ok hc) (hx.ok hp) (hx.ok hq) (by omega) (by omega))
    have hst : chStep c st x = (st.1 ++ [(mkM (fun F => muxM F c x.1 x.2) st.2).1], (mkM (fun F => muxM F c x.1 x.2) st.2).2) := rfl
    rw [List.foldl_cons, hst]
    generalize mkM (fun F => muxM F c x.1 x.2) st.2 = r at *
    obtain ⟨σ2, h2, o3, l3⟩ := ih (st.1 ++ [r.1], r.2) σ1 (dv + 1) (dc + 6) h1 (fun y hy => hl y (by simp [hy])) hc (fun y hy => by
      rcases List.mem_append.1 hy with hy | hy
      · exact x1.ok (ho y hy)
      · simp at hy; rw [hy]; exact o1) (by omega) (by omega)
    refine ⟨σ2, h2.mono (by rw [List.length_cons]; omega) (by rw [List.length_cons]; omega), o3, ?_⟩
    rw [l3]
    simp only [List.map_append, List.map_cons, List.map_nil, List.append_assoc, List.cons_append, List.nil_append]
    rw [l1, hx.litT hp, hx.litT hq, hx.litT hc]
    congr 1
    exact List.map_congr_left fun y hy => x1.litT (ho y hy)

theorem choose_good {c : Int} (hG : Good n σ F) (h1 : 1 ≤ xs.length) (h64 : xs.length ≤ 64) (hl : ys.length = xs.length)
    (hc : okLit F.vars c = true) (hx : ∀ x ∈ xs, okLit F.vars x = true) (hy : ∀ y ∈ ys, okLit F.vars y = true) (hv : F.vars + xs.length < 1048576) (hk : F.cls.length + 6 * xs.length ≤ 1048576) :
    WordOk n σ F (chooseM F c xs ys) (chooseB (litT σ c) (xs.map (litT σ)) (ys.map (litT σ))) xs.length (6 * xs.length) := by
  have hz : (xs.zip ys).length = xs.length := by rw [List.length_zip]; omega
  unfold chooseM
  rw [if_pos (check_words h1 h64 hl (fun x hx' => by simp at hx'; rw [hx']; exact hc) hx hy)]
  obtain ⟨σ', h2, o, l⟩ := choose_fold (n := n) (σ := σ) (F := F) c (xs.zip ys) ([], (F, 0)) σ 0 0 (StOk.start hG) (zip_lits hx hy) hc (by simp) (by omega) (by omega)
  unfold wordM
  rw [if_pos h2.e]
  refine ⟨rfl, σ', by have := h2.x; rw [hz, Nat.zero_add, Nat.zero_add] at this; exact this, o, l.trans ?_⟩
  unfold chooseB
  cases litT σ c
  · simpa using zip_snd hl _
  · simpa using zip_fst hl _

theorem less_gen (hG : Good n σ F) (hl : ys.length = xs.length) (hx : ∀ x ∈ xs, okLit F.vars x = true) (hy : ∀ y ∈ ys, okLit F.vars y = true) (hv : F.vars + 2 * xs.length < 1048576) (hk : F.cls.length + 12 * xs.length ≤ 1048576) :
    LitOk n σ F (litM ((xs.zip ys).foldl lsStep (-1, (F, 0))).1 ((xs.zip ys).foldl lsStep (-1, (F, 0))).2) (lessB (xs.map (litT σ)) (ys.map (litT σ)) false) (2 * xs.length) (12 * xs.length) := by
  have hz : (xs.zip ys).length = xs.length := by rw [List.length_zip]; omega
  obtain ⟨σ', h2, o, l⟩ := scal_good (n := n) (σ0 := σ) (F0 := F) lsStep (fun x => okLit F.vars x.1 = true ∧ okLit F.vars x.2 = true) (fun x => (litT σ x.1, litT σ x.2)) (fun b v => if v.1 != v.2 then v.2 else b)
    (fun st σ1 dv dc a ha h ho hv hk => by
      have hx := h.x
      have hx1 := hx.v1; have hx2 := hx.c1
      obtain ⟨σ2, h1, x1, o1, l1⟩ := h.gate (g := fun F => xorM F a.1 a.2) (xor_good h.good (hx.ok ha.1) (hx.ok ha.2) (by omega) (by omega))
      have y1 := x1.v1; have y2 := x1.c1
      obtain ⟨σ3, h3, x3, o3, l3⟩ := h1.gate (g := fun F => muxM F (mkM (fun F => xorM F a.1 a.2) st.2).1 a.2 st.1) (mux_good h1.good o1 (x1.ok (hx.ok ha.2)) (x1.ok ho) (by omega) (by omega))
      refine ⟨σ3, h3, o3, l3.trans ?_⟩
      rw [l1, x1.litT (hx.ok ha.2), hx.litT ha.1, hx.litT ha.2, x1.litT ho])
    (xs.zip ys) (-1, (F, 0)) σ 0 0 (zip_lits hx hy) (StOk.start hG) (ok_neg hG.ok1) (by omega) (by omega)
  have e : ((xs.zip ys).map fun x => (litT σ x.1, litT σ x.2)).foldl (fun b v => if v.1 != v.2 then v.2 else b) (litT σ (-1)) = lessB (xs.map (litT σ)) (ys.map (litT σ)) false := by
    rw [hG.tm1]
    generalize false = acc
    clear h2 o l hz hx hy hv hk
    induction xs generalizing ys acc with
    | nil => cases ys with
      | nil => rfl
      | cons => simp at hl
    | cons x xs ih => cases ys with
      | nil => simp at hl
      | cons y ys =>
        simp only [List.zip_cons_cons, List.map_cons, List.foldl_cons, lessB]
        exact ih (by simpa using hl) _
  have := litM_ok h2 o
  rw [l, e, hz, Nat.zero_add, Nat.zero_add] at this
  exact this

theorem equal_gen (hG : Good n σ F) (hl : ys.length = xs.length) (hx : ∀ x ∈ xs, okLit F.vars x = true) (hy : ∀ y ∈ ys, okLit F.vars y = true) (hv : F.vars + 2 * xs.length < 1048576) (hk : F.cls.length + 12 * xs.length ≤ 1048576) :
    LitOk n σ F (litM (-((xs.zip ys).foldl eqStep (-1, (F, 0))).1) ((xs.zip ys).foldl eqStep (-1, (F, 0))).2) (!(diffB (xs.map (litT σ)) (ys.map (litT σ)) false)) (2 * xs.length) (12 * xs.length) := by
  have hz : (xs.zip ys).length = xs.length := by rw [List.length_zip]; omega
  obtain ⟨σ', h2, o, l⟩ := scal_good (n := n) (σ0 := σ) (F0 := F) eqStep (fun x => okLit F.vars x.1 = true ∧ okLit F.vars x.2 = true) (fun x => (litT σ x.1, litT σ x.2)) (fun b v => b || (v.1 != v.2))
    (fun st σ1 dv dc a ha h ho hv hk => by
      have hx := h.x
      have hx1 := hx.v1; have hx2 := hx.c1
      obtain ⟨σ2, h1, x1, o1, l1⟩ := h.gate (g := fun F => xorM F a.1 a.2) (xor_good h.good (hx.ok ha.1) (hx.ok ha.2) (by omega) (by omega))
      have y1 := x1.v1; have y2 := x1.c1
      obtain ⟨σ3, h3, x3, o3, l3⟩ := h1.gate (g := fun F => orM F st.1 (mkM (fun F => xorM F a.1 a.2) st.2).1) (or_good h1.good (x1.ok ho) o1 (by omega) (by omega))
      refine ⟨σ3, h3, o3, l3.trans ?_⟩
      rw [l1, hx.litT ha.1, hx.litT ha.2, x1.litT ho])
    (xs.zip ys) (-1, (F, 0)) σ 0 0 (zip_lits hx hy) (StOk.start hG) (ok_neg hG.ok1) (by omega) (by omega)
  have e : ((xs.zip ys).map fun x => (litT σ x.1, litT σ x.2)).foldl (fun b v => b || (v.1 != v.2)) (litT σ (-1)) = diffB (xs.map (litT σ)) (ys.map (litT σ)) false := by
    rw [hG.tm1]
    generalize false = acc
    clear h2 o l hz hx hy hv hk
    induction xs generalizing ys acc with
    | nil => cases ys with
      | nil => rfl
      | cons => simp at hl
    | cons x xs ih => cases ys with
      | nil => simp at hl
      | cons y ys =>
        simp only [List.zip_cons_cons, List.map_cons, List.foldl_cons, diffB]
        exact ih (by simpa using hl) _
  have := litM_ok (st := (-((xs.zip ys).foldl eqStep (-1, (F, 0))).1, ((xs.zip ys).foldl eqStep (-1, (F, 0))).2)) h2 (ok_neg o)
  rw [litT_neg _ (lit_ne o), l, e, hz, Nat.zero_add, Nat.zero_add] at this
  exact this

theorem any_gen (hG : Good n σ F) (hx : ∀ x ∈ xs, okLit F.vars x = true) (hv : F.vars + 2 * xs.length < 1048576) (hk : F.cls.length + 12 * xs.length ≤ 1048576) :
    LitOk n σ F (litM (xs.foldl anStep (-1, (F, 0))).1 (xs.foldl anStep (-1, (F, 0))).2) ((xs.map (litT σ)).any id) (2 * xs.length) (12 * xs.length) := by
  obtain ⟨σ', h2, o, l⟩ := scal_good (n := n) (σ0 := σ) (F0 := F) anStep (fun x => okLit F.vars x = true) (litT σ) (fun b v => b || v)
    (fun st σ1 dv dc a ha h ho hv hk => by
      have hx := h.x
      have hx1 := hx.v1; have hx2 := hx.c1
      obtain ⟨σ3, h3, x3, o3, l3⟩ := h.gate (g := fun F => orM F st.1 a) (or_good h.good ho (hx.ok ha) (by omega) (by omega))
      refine ⟨σ3, h3.mono (by omega) (by omega), o3, l3.trans ?_⟩
      rw [hx.litT ha])
    xs (-1, (F, 0)) σ 0 0 hx (StOk.start hG) (ok_neg hG.ok1) (by omega) (by omega)
  have e : (xs.map (litT σ)).foldl (fun b v => b || v) (litT σ (-1)) = (xs.map (litT σ)).any id := by
    rw [hG.tm1]
    generalize xs.map (litT σ) = bs
    have : ∀ acc, bs.foldl (fun b v => b || v) acc = (acc || bs.any id) := by
      induction bs with
      | nil => intro acc; simp
      | cons b bs ih => intro acc; rw [List.foldl_cons, ih]; simp [Bool.or_assoc]
    rw [this]; rfl
  have := litM_ok h2 o
  rw [l, e, Nat.zero_add, Nat.zero_add] at this
  exact this

theorem equal_good (hG : Good n σ F) (h1 : 1 ≤ xs.length) (h64 : xs.length ≤ 64) (hl : ys.length = xs.length)
    (hx : ∀ x ∈ xs, okLit F.vars x = true) (hy : ∀ y ∈ ys, okLit F.vars y = true) (hv : F.vars + 2 * xs.length < 1048576) (hk : F.cls.length + 12 * xs.length ≤ 1048576) :
    LitOk n σ F (equalM F xs ys) (!(diffB (xs.map (litT σ)) (ys.map (litT σ)) false)) (2 * xs.length) (12 * xs.length) := by
  unfold equalM
  rw [if_pos (check_words h1 h64 hl (by simp) hx hy)]
  exact equal_gen hG hl hx hy hv hk

theorem turn_len (l : List Int) : (turnM l).length = l.length := by unfold turnM; simp
theorem turn_ok {n : Nat} {l : List Int} (h1 : 1 ≤ l.length) (h : ∀ x ∈ l, okLit n x = true) : ∀ x ∈ turnM l, okLit n x = true := fun x hx => by
  rcases List.mem_or_eq_of_mem_set hx with hx | rfl
  · exact h x hx
  · rw [List.getD_eq_getElem?_getD, List.getElem?_eq_getElem (by omega)]
    exact ok_neg (h _ (List.getElem_mem _))

theorem less_good (hG : Good n σ F) (h1 : 1 ≤ xs.length) (h64 : xs.length ≤ 64) (hl : ys.length = xs.length) (sg : Bool)
    (hx : ∀ x ∈ xs, okLit F.vars x = true) (hy : ∀ y ∈ ys, okLit F.vars y = true) (hv : F.vars + 2 * xs.length < 1048576) (hk : F.cls.length + 12 * xs.length ≤ 1048576) :
    LitOk n σ F (lessM F xs ys sg) (if sg then lessB ((turnM xs).map (litT σ)) ((turnM ys).map (litT σ)) false else lessB (xs.map (litT σ)) (ys.map (litT σ)) false) (2 * xs.length) (12 * xs.length) := by
  unfold lessM
  rw [if_pos (check_words h1 h64 hl (by simp) hx hy)]
  cases sg
  · exact less_gen hG hl hx hy hv hk
  · have := less_gen hG (xs := turnM xs) (ys := turnM ys) (by rw [turn_len, turn_len]; exact hl) (turn_ok h1 hx) (turn_ok (by omega) hy) (by rw [turn_len]; exact hv) (by rw [turn_len]; exact hk)
    rw [turn_len] at this
    exact this

theorem any_good (hG : Good n σ F) (h1 : 1 ≤ xs.length) (h64 : xs.length ≤ 64) (hx : ∀ x ∈ xs, okLit F.vars x = true) (hv : F.vars + 2 * xs.length < 1048576) (hk : F.cls.length + 12 * xs.length ≤ 1048576) :
    LitOk n σ F (anyM F xs) ((xs.map (litT σ)).any id) (2 * xs.length) (12 * xs.length) := by
  unfold anyM
  rw [if_pos (check_ok (fun l hl' => by
    simp only [List.mem_cons, List.not_mem_nil, or_false] at hl'
    subst hl'; exact ⟨h1, h64, rfl⟩) (fun l hl' x hx' => by
    simp only [List.mem_cons, List.not_mem_nil, or_false] at hl'
    rcases hl' with rfl | rfl
    · simp at hx'
    · exact hx x hx'))]
  exact any_gen hG hx hv hk

theorem sub_good (hG : Good n σ F) (h1 : 1 ≤ xs.length) (h64 : xs.length ≤ 64) (hl : ys.length = xs.length)
    (hx : ∀ x ∈ xs, okLit F.vars x = true) (hy : ∀ y ∈ ys, okLit F.vars y = true) (hv : F.vars + 3 * xs.length < 1048576) (hk : F.cls.length + 18 * xs.length ≤ 1048576) :
    WordOk n σ F (subM F xs ys) (addB (xs.map (litT σ)) ((ys.map (litT σ)).map (!·)) true) (3 * xs.length) (18 * xs.length) := by
  unfold subM
  rw [if_pos (check_words h1 h64 hl (by simp) hx hy)]
  have := add_good hG h1 h64 (ys := ys.map (-·)) (by simpa using hl) hG.ok1 hx (fun y hy' => by
    obtain ⟨z, hz, rfl⟩ := List.mem_map.1 hy'
    exact ok_neg (hy z hz)) hv hk
  rw [hG.t1, List.map_map] at this
  rw [List.map_map]
  have e : ys.map (litT σ ∘ (-·)) = ys.map ((!·) ∘ litT σ) := List.map_congr_left fun y hy' => litT_neg _ (lit_ne (hy y hy'))
  rw [e] at this
  exact this
end
end Go.Proofs.YtjcnhnifageikaaDoor
