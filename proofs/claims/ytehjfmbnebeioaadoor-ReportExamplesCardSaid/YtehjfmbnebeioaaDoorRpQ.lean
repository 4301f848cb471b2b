/-
  Verdicts made valid, and what their lines tell. No program in sight.
-/
import Derived.Test.YtehjfmbnebeioaaDoorRpD
namespace Go.Proofs.YtehjfmbnebeioaaDoor
set_option linter.unusedSimpArgs false
set_option linter.unusedVariables false
open Go.Lib

/-! ### words and numerals -/
theorem dig_val {d : Nat} (h : d < 10) : (UInt8.ofNat (48 + d)).toNat = 48 + d := by rw [UInt8.toNat_ofNat']; omega
theorem decDigits_range : ∀ n, ∀ c ∈ decDigits n, 48 ≤ c.toNat ∧ c.toNat ≤ 57 := by
  intro n
  induction n using Nat.strongRecOn with
  | _ n ih =>
    intro c hc
    rw [decDigits] at hc
    split at hc
    · rename_i h
      simp only [List.mem_singleton] at hc
      subst hc
      have := dig_val h
      omega
    · rename_i h
      rw [List.mem_append] at hc
      rcases hc with hc | hc
      · exact ih (n / 10) (by omega) c hc
      · simp only [List.mem_singleton] at hc
        subst hc
        have := dig_val (d := n % 10) (by omega)
        omega
def valD (l : By) : Nat := l.foldl (fun a c => 10 * a + (c.toNat - 48)) 0
theorem valD_dec : ∀ n, valD (decDigits n) = n := by
  intro n
  induction n using Nat.strongRecOn with
  | _ n ih =>
    rw [decDigits]
    split
    · rename_i h
      simp only [valD, List.foldl_cons, List.foldl_nil]
      have := dig_val h
      omega
    · rename_i h
      have h2 := ih (n / 10) (by omega)
      unfold valD at h2 ⊢
      rw [List.foldl_append, h2]
      simp only [List.foldl_cons, List.foldl_nil]
      have := dig_val (d := n % 10) (by omega)
      omega
theorem decDigits_inj {m n : Nat} (h : decDigits m = decDigits n) : m = n := by rw [← valD_dec m, ← valD_dec n, h]
theorem decDigits_ne (n : Nat) : decDigits n ≠ [] := by
  intro h
  have := decDigits_length n
  have := nDigits_pos n
  rw [h] at *
  simp at *
  omega
theorem decDigits_no {n : Nat} (x : UInt8) (hx : x.toNat < 48) : x ∉ decDigits n := fun h => by have := decDigits_range n x h; omega
theorem itoa_no (n : Int) : (32 : UInt8) ∉ itoa n := by
  unfold itoa
  split
  · intro h
    rcases List.mem_cons.1 h with h | h
    · exact absurd h (by decide)
    · exact decDigits_no 32 (by decide) h
  · exact decDigits_no 32 (by decide)
theorem itoa_no10 (n : Int) : (10 : UInt8) ∉ itoa n := by
  unfold itoa
  split
  · intro h
    rcases List.mem_cons.1 h with h | h
    · exact absurd h (by decide)
    · exact decDigits_no 10 (by decide) h
  · exact decDigits_no 10 (by decide)
theorem itoa_inj {m n : Int} (h : itoa m = itoa n) : m = n := by
  unfold itoa at h
  split at h <;> split at h
  · have := decDigits_inj (List.cons.inj h).2
    omega
  · exact absurd (show (45 : UInt8) ∈ decDigits n.toNat by rw [← h]; exact List.mem_cons_self) (decDigits_no 45 (by decide))
  · exact absurd (show (45 : UInt8) ∈ decDigits m.toNat by rw [h]; exact List.mem_cons_self) (decDigits_no 45 (by decide))
  · have := decDigits_inj h
    omega
theorem itoa_ne (n : Int) : itoa n ≠ [] := by
  unfold itoa
  split
  · simp
  · exact decDigits_ne _
/-- Two texts that go on behind a first word: the words are the same, and what follows. -/
theorem word_split {a b r s : By} (ha : (32 : UInt8) ∉ a) (hb : (32 : UInt8) ∉ b) (hr : r = [] ∨ r.head? = some 32) (hs : s = [] ∨ s.head? = some 32) (h : a ++ r = b ++ s) : a = b ∧ r = s := by
  induction a generalizing b with
  | nil =>
    cases b with
    | nil => exact ⟨rfl, h⟩
    | cons y b =>
      rcases hr with rfl | hr
      · cases h
      · rw [List.nil_append] at h
        rw [h] at hr
        simp only [List.cons_append, List.head?_cons, Option.some.injEq] at hr
        subst hr
        exact absurd List.mem_cons_self hb
  | cons x a ih =>
    cases b with
    | nil =>
      rcases hs with rfl | hs
      · cases h
      · rw [List.nil_append] at h
        rw [← h] at hs
        simp only [List.cons_append, List.head?_cons, Option.some.injEq] at hs
        subst hs
        exact absurd List.mem_cons_self ha
    | cons y b =>
      rw [List.cons_append, List.cons_append] at h
      obtain ⟨rfl, h'⟩ := List.cons.inj h
      obtain ⟨rfl, h2⟩ := ih (fun hm => ha (List.mem_cons_of_mem _ hm)) (fun hm => hb (List.mem_cons_of_mem _ hm)) h'
      exact ⟨rfl, h2⟩
def numsS (l : List Nat) : By := l.flatMap (fun n => 32 :: decDigits n)
theorem numsS_cons (n : Nat) (l : List Nat) : numsS (n :: l) = 32 :: (decDigits n ++ numsS l) := by simp [numsS]
theorem numsS_head (l : List Nat) : numsS l = [] ∨ (numsS l).head? = some 32 := by
  cases l with
  | nil => exact .inl rfl
  | cons n l => exact .inr (by rw [numsS_cons]; rfl)
theorem numsS_inj : ∀ {l m : List Nat}, numsS l = numsS m → l = m
  | [], [], _ => rfl
  | [], n :: m, h => by rw [numsS_cons] at h; cases h
  | n :: l, [], h => by rw [numsS_cons] at h; cases h
  | n :: l, k :: m, h => by
    rw [numsS_cons, numsS_cons] at h
    obtain ⟨h1, h2⟩ := word_split (decDigits_no 32 (by decide)) (decDigits_no 32 (by decide)) (numsS_head l) (numsS_head m) (List.cons.inj h).2
    rw [decDigits_inj h1, numsS_inj h2]
theorem rowR_eq (word name : By) (l : List Nat) : rowR word name l = word ++ 32 :: name ++ numsS l := rfl
theorem rowR_inj {word name : By} {l m : List Nat} (h : rowR word name l = rowR word name m) : l = m := by
  rw [rowR_eq, rowR_eq] at h
  exact numsS_inj (List.append_cancel_left h)

/-! ### verdicts made valid -/
/-- A verdict with the fields of its kind alone, for so many levels and channels. -/
inductive Mv (m c : Nat) : Vd → Prop where
  | sec : Mv m c ⟨0, 0, 0, [], [], false, false, 0, 0, 0⟩
  | inc (r : Nat) (h1 : 1 ≤ r) (h2 : r ≤ 4) : Mv m c ⟨2, r, 0, [], [], false, false, 0, 0, 0⟩
  | rej (pol : Bool) (ln co er : Int) (h1 : 1 ≤ er) (h2 : er ≤ 10) : Mv m c ⟨3, 0, 0, [], [], false, pol, ln, co, er⟩
  | lk (lv : Nat) (A B : List (List Nat)) (imp : Bool) (h1 : lv < m) (h2 : A.length = c) (h3 : B.length = c) : Mv m c ⟨1, 0, (lv : Int), A, B, imp, false, 0, 0, 0⟩
theorem vl_sec (L C : List By) : vlinesR ⟨0, 0, 0, [], [], false, false, 0, 0, 0⟩ L C = ([wSecure], 0) := by
  simp [vlinesR, bareR, plainR, wordR, wKind]
theorem vl_inc (r : Nat) (h1 : 1 ≤ r) (h2 : r ≤ 4) (L C : List By) : vlinesR ⟨2, r, 0, [], [], false, false, 0, 0, 0⟩ L C = ([wInc ++ 32 :: wReason r], 0) := by
  have h : ¬ (r = 0 ∨ 4 < r) := by omega
  simp [vlinesR, bareR, plainR, wordR, h]
def rejS (pol : Bool) (ln co er : Int) : By := wReject ++ (if pol then ([32, 112, 111, 108, 105, 99, 121, 32] : By) else [32, 112, 114, 111, 103, 114, 97, 109, 32]) ++ itoa ln ++ ([32] : By) ++ itoa co ++ ([32] : By) ++ wErr er.toNat
theorem vl_rej (pol : Bool) (ln co er : Int) (h1 : 1 ≤ er) (h2 : er ≤ 10) (L C : List By) : vlinesR ⟨3, 0, 0, [], [], false, pol, ln, co, er⟩ L C = ([rejS pol ln co er], 0) := by
  have h : ¬ (er < 1 ∨ 10 < er) := by omega
  simp [vlinesR, bareR, rejectR, h, rejS]
def lkS (lv : Nat) (imp : Bool) (L : List By) : By := wLeak ++ ([32, 97, 116, 32] : By) ++ L.getD lv [] ++ ([32] : By) ++ wHow imp
theorem vl_lk (lv : Nat) (A B : List (List Nat)) (imp : Bool) (L C : List By) (h1 : lv < L.length) (h2 : A.length = C.length) (h3 : B.length = C.length) :
    vlinesR ⟨1, 0, (lv : Int), A, B, imp, false, 0, 0, 0⟩ L C = (lkS lv imp L :: chanR ⟨1, 0, (lv : Int), A, B, imp, false, 0, 0, 0⟩ C C.length, 0) := by
  have ha : ¬ ((lv : Int) < 0 ∨ (L.length : Int) ≤ (lv : Int)) := by omega
  have hb : ¬ (C.length < A.length ∨ C.length < B.length) := by omega
  simp only [vlinesR, leakR]
  rw [if_neg (by decide), if_neg (by simp [bareR]), if_pos trivial, if_neg ha, if_neg hb]
  rfl
theorem Mv.ok {m c : Nat} {v : Vd} (h : Mv m c v) (L C : List By) (hL : L.length = m) (hC : C.length = c) : (vlinesR v L C).2 = 0 := by
  cases h with
  | sec => rw [vl_sec]
  | inc r h1 h2 => rw [vl_inc r h1 h2]
  | rej pol ln co er h1 h2 => rw [vl_rej pol ln co er h1 h2]
  | lk lv A B imp h1 h2 h3 => rw [vl_lk lv A B imp L C (by omega) (by omega) (by omega)]

theorem chanR_succ (v : Vd) (C : List By) (k : Nat) : chanR v C (k + 1) = chanR v C k ++ [rowR wFirst (C.getD k []) (atL v.A k), rowR wSecond (C.getD k []) (atL v.B k)] := by
  unfold chanR; rw [List.range_succ, List.flatMap_append]; simp
theorem chanR_length (v : Vd) (C : List By) : ∀ k, (chanR v C k).length = 2 * k
  | 0 => rfl
  | k + 1 => by rw [chanR_succ, List.length_append, chanR_length v C k]; simp; omega
theorem chanR_inj {v u : Vd} {C : List By} : ∀ {k : Nat}, chanR v C k = chanR u C k → ∀ i, i < k → atL v.A i = atL u.A i ∧ atL v.B i = atL u.B i
  | 0, _, i, hi => by omega
  | k + 1, h, i, hi => by
    rw [chanR_succ, chanR_succ] at h
    obtain ⟨h1, h2⟩ := List.append_inj h (by rw [chanR_length, chanR_length])
    by_cases hk : i = k
    · subst hk
      simp only [List.cons.injEq, and_true] at h2
      exact ⟨rowR_inj h2.1, rowR_inj h2.2⟩
    · exact chanR_inj h1 i (by omega)
theorem atL_ext {A B : List (List Nat)} (h : A.length = B.length) (hx : ∀ i, i < A.length → atL A i = atL B i) : A = B := by
  apply List.ext_getElem h
  intro i h1 h2
  have := hx i h1
  unfold atL at this
  rwa [List.getD_eq_getElem?_getD, List.getD_eq_getElem?_getD, List.getElem?_eq_getElem h1, List.getElem?_eq_getElem h2] at this

theorem wReason_inj {r s : Nat} (h1 : 1 ≤ r ∧ r ≤ 4) (h2 : 1 ≤ s ∧ s ≤ 4) (h : wReason r = wReason s) : r = s := by
  have hr : r = 1 ∨ r = 2 ∨ r = 3 ∨ r = 4 := by omega
  have hs : s = 1 ∨ s = 2 ∨ s = 3 ∨ s = 4 := by omega
  rcases hr with rfl | rfl | rfl | rfl <;> rcases hs with rfl | rfl | rfl | rfl <;> first | rfl | (simp [wReason] at h)
theorem wErr_injF : ∀ a b : Fin 11, 1 ≤ a.val → 1 ≤ b.val → wErr a.val = wErr b.val → a = b := by decide +kernel
theorem wErr_inj {r s : Int} (h1 : 1 ≤ r ∧ r ≤ 10) (h2 : 1 ≤ s ∧ s ≤ 10) (h : wErr r.toNat = wErr s.toNat) : r = s := by
  have := wErr_injF ⟨r.toNat, by omega⟩ ⟨s.toNat, by omega⟩ (by show 1 ≤ r.toNat; omega) (by show 1 ≤ s.toNat; omega) h
  have := congrArg Fin.val this
  have : r.toNat = s.toNat := this
  omega
theorem rejS_inj {pol pol2 : Bool} {ln co er ln2 co2 er2 : Int} (h1 : 1 ≤ er ∧ er ≤ 10) (h2 : 1 ≤ er2 ∧ er2 ≤ 10) (h : rejS pol ln co er = rejS pol2 ln2 co2 er2) : pol = pol2 ∧ ln = ln2 ∧ co = co2 ∧ er = er2 := by
  unfold rejS at h
  simp only [List.append_assoc] at h
  have h := List.append_cancel_left h
  have key : ∀ {x y : By}, itoa ln ++ (([32] : By) ++ (itoa co ++ (([32] : By) ++ x))) = itoa ln2 ++ (([32] : By) ++ (itoa co2 ++ (([32] : By) ++ y))) → ln = ln2 ∧ co = co2 ∧ x = y := by
    intro x y h
    obtain ⟨e1, h⟩ := word_split (itoa_no ln) (itoa_no ln2) (.inr rfl) (.inr rfl) h
    obtain ⟨e2, h⟩ := word_split (itoa_no co) (itoa_no co2) (.inr rfl) (.inr rfl) (List.append_cancel_left h)
    exact ⟨itoa_inj e1, itoa_inj e2, List.append_cancel_left h⟩
  cases pol <;> cases pol2
  · obtain ⟨a, b, c⟩ := key (List.append_cancel_left h); exact ⟨rfl, a, b, wErr_inj h1 h2 c⟩
  · simp at h
  · simp at h
  · obtain ⟨a, b, c⟩ := key (List.append_cancel_left h); exact ⟨rfl, a, b, wErr_inj h1 h2 c⟩
theorem lkS_inj {lv lv2 m : Nat} {imp imp2 : Bool} (h1 : lv < m) (h2 : lv2 < m) (hm : m ≤ 100) (h : lkS lv imp (namesL m) = lkS lv2 imp2 (namesL m)) : lv = lv2 ∧ imp = imp2 := by
  unfold lkS at h
  simp only [List.append_assoc] at h
  have h := List.append_cancel_left (List.append_cancel_left h)
  have e : ∀ i, i < m → (namesL m).getD i [] = nameL i := by intro i hi; simp [namesL, List.getD_eq_getElem?_getD, hi]
  rw [e _ h1, e _ h2] at h
  have hb : ∀ i, i < 100 → (UInt8.ofNat (97 + i)).toNat = 97 + i := by intro i hi; rw [UInt8.toNat_ofNat']; omega
  unfold nameL at h
  simp only [List.cons_append, List.nil_append, List.cons.injEq, true_and] at h
  have h3 := congrArg UInt8.toNat h.1
  rw [hb _ (by omega), hb _ (by omega)] at h3
  refine ⟨by omega, ?_⟩
  have h4 := h.2
  cases imp <;> cases imp2 <;> first | rfl | (simp [wHow] at h4)

/-- THE STAGE'S THEOREM: verdicts with the same lines are the same. -/
theorem tells {m c : Nat} {v u : Vd} (hv : Mv m c v) (hu : Mv m c u) (hm : m ≤ 100) (h : (vlinesR v (namesL m) (namesL c)).1 = (vlinesR u (namesL m) (namesL c)).1) : v = u := by
  cases hv with
  | sec =>
    rw [vl_sec] at h
    cases hu with
    | sec => rfl
    | inc r h1 h2 => rw [vl_inc r h1 h2] at h; simp [wSecure, wInc] at h
    | rej pol ln co er h1 h2 => rw [vl_rej pol ln co er h1 h2] at h; simp [wSecure, rejS, wReject] at h
    | lk lv A B imp h1 h2 h3 => rw [vl_lk lv A B imp _ _ (by rw [namesL_len]; omega) (by rw [namesL_len]; omega) (by rw [namesL_len]; omega)] at h; simp [wSecure, lkS, wLeak] at h
  | inc r g1 g2 =>
    rw [vl_inc r g1 g2] at h
    cases hu with
    | sec => rw [vl_sec] at h; simp [wSecure, wInc] at h
    | inc s h1 h2 =>
      rw [vl_inc s h1 h2] at h
      simp only [List.cons.injEq, and_true] at h
      have := List.append_cancel_left h
      obtain rfl := wReason_inj ⟨g1, g2⟩ ⟨h1, h2⟩ (List.cons.inj this).2
      rfl
    | rej pol ln co er h1 h2 => rw [vl_rej pol ln co er h1 h2] at h; simp [wInc, rejS, wReject] at h
    | lk lv A B imp h1 h2 h3 => rw [vl_lk lv A B imp _ _ (by rw [namesL_len]; omega) (by rw [namesL_len]; omega) (by rw [namesL_len]; omega)] at h; simp [wInc, lkS, wLeak] at h
  | rej pol ln co er g1 g2 =>
    rw [vl_rej pol ln co er g1 g2] at h
    cases hu with
    | sec => rw [vl_sec] at h; simp [wSecure, rejS, wReject] at h
    | inc r h1 h2 => rw [vl_inc r h1 h2] at h; simp [wInc, rejS, wReject] at h
    | rej pol2 ln2 co2 er2 h1 h2 =>
      rw [vl_rej pol2 ln2 co2 er2 h1 h2] at h
      simp only [List.cons.injEq, and_true] at h
      obtain ⟨rfl, rfl, rfl, rfl⟩ := rejS_inj ⟨g1, g2⟩ ⟨h1, h2⟩ h
      rfl
    | lk lv A B imp h1 h2 h3 => rw [vl_lk lv A B imp _ _ (by rw [namesL_len]; omega) (by rw [namesL_len]; omega) (by rw [namesL_len]; omega)] at h; simp [rejS, wReject, lkS, wLeak] at h
  | lk lv A B imp g1 g2 g3 =>
    rw [vl_lk lv A B imp _ _ (by rw [namesL_len]; omega) (by rw [namesL_len]; omega) (by rw [namesL_len]; omega)] at h
    cases hu with
    | sec => rw [vl_sec] at h; simp [wSecure, lkS, wLeak] at h
    | inc r h1 h2 => rw [vl_inc r h1 h2] at h; simp [wInc, lkS, wLeak] at h
    | rej pol ln co er h1 h2 => rw [vl_rej pol ln co er h1 h2] at h; simp [rejS, wReject, lkS, wLeak] at h
    | lk lv2 A2 B2 imp2 h1 h2 h3 =>
      rw [vl_lk lv2 A2 B2 imp2 _ _ (by rw [namesL_len]; omega) (by rw [namesL_len]; omega) (by rw [namesL_len]; omega)] at h
      obtain ⟨e1, e2⟩ := List.cons.inj h
      obtain ⟨rfl, rfl⟩ := lkS_inj g1 h1 hm e1
      rw [namesL_len] at e2
      have hx := chanR_inj e2
      obtain rfl := atL_ext (A := A) (B := A2) (by omega) fun i hi => (hx i (by omega)).1
      obtain rfl := atL_ext (A := B) (B := B2) (by omega) fun i hi => (hx i (by omega)).2
      rfl

end Go.Proofs.YtehjfmbnebeioaaDoor
