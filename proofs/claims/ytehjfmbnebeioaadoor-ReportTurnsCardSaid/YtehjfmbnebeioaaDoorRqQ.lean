/-
  What the lines of verdicts made valid look like. No program in sight.
-/
import Derived.Test.YtehjfmbnebeioaaDoorRqA
import Derived.Lib.IndexMore
import Derived.Lib.Strings
namespace Go.Proofs.YtehjfmbnebeioaaDoor
set_option linter.unusedSimpArgs false
set_option linter.unusedVariables false
open Go.RowKit Go.Shelf
attribute [local go_sem] Oper.semAt_some
open Go.Lib
/-- Each blank is followed by a byte that is no blank; no line feed. -/
def headNe : By → Bool
  | [] => false
  | d :: _ => d != 32
def lineOk : By → Bool
  | [] => true
  | c :: r => (c != 10) && (c != 32 || headNe r) && lineOk r
theorem lineOk_cons (c : UInt8) (r : By) : lineOk (c :: r) = ((c != 10) && (c != 32 || headNe r) && lineOk r) := rfl
theorem headNe_cons (c : UInt8) (r : By) : headNe (c :: r) = (c != 32) := rfl
def clean (a : By) : Prop := ∀ c ∈ a, c ≠ 32 ∧ c ≠ 10
theorem lineOk_word {a : By} (b : By) (h : clean a) : lineOk (a ++ b) = lineOk b := by
  induction a with
  | nil => rfl
  | cons c r ih =>
    obtain ⟨h1, h2⟩ := h c List.mem_cons_self
    rw [List.cons_append, lineOk_cons, ih fun d hd => h d (List.mem_cons_of_mem _ hd)]
    have e1 : (c != 10) = true := by rw [bne_iff_ne]; exact h2
    have e2 : (c != 32) = true := by rw [bne_iff_ne]; exact h1
    rw [e1, e2]; simp
theorem lineOk_sp {a : By} (b : By) (h : clean a) (hn : a ≠ []) : lineOk (32 :: (a ++ b)) = lineOk b := by
  cases a with
  | nil => exact absurd rfl hn
  | cons c r =>
    have h1 := (h c List.mem_cons_self).1
    have e := lineOk_word b h
    rw [lineOk_cons, e]
    have e2 : (c != 32) = true := by rw [bne_iff_ne]; exact h1
    rw [List.cons_append, headNe_cons, e2]; simp
theorem lineOk_index : ∀ {s : By}, lineOk s = true → index s [32, 32] = -1
  | [], _ => rfl
  | c :: r, h => by
    rw [lineOk_cons] at h
    simp only [Bool.and_eq_true] at h
    obtain ⟨⟨h1, h2⟩, h3⟩ := h
    have ih := lineOk_index h3
    rw [index]
    have hp : ([32, 32] : By).isPrefixOf (c :: r) = false := by
      by_cases hc : c = 32
      · subst hc
        cases r with
        | nil => simp [List.isPrefixOf]
        | cons d r =>
          have hd : d ≠ 32 := by simpa [headNe] using h2
          have : ((32 : UInt8) == d) = false := by rw [beq_eq_false_iff_ne]; exact fun e => hd e.symm
          simp [List.isPrefixOf, this]
      · have : ((32 : UInt8) == c) = false := by rw [beq_eq_false_iff_ne]; exact fun e => hc e.symm
        simp [List.isPrefixOf, this]
    rw [hp, ih]; rfl
theorem lineOk_byte : ∀ {s : By}, lineOk s = true → indexByte s 10 = -1
  | [], _ => rfl
  | c :: r, h => by
    rw [lineOk_cons] at h
    simp only [Bool.and_eq_true] at h
    obtain ⟨⟨h1, h2⟩, h3⟩ := h
    have ih := lineOk_byte h3
    have hc : (c == 10) = false := by rw [beq_eq_false_iff_ne]; simpa using h1
    rw [indexByte, hc, ih]; rfl
theorem lineOk_end : ∀ {t : By}, lineOk (t ++ [32]) = false
  | [] => rfl
  | c :: t => by rw [List.cons_append, lineOk_cons, lineOk_end]; simp
theorem lineOk_suffix {s : By} (h : lineOk s = true) : hasSuffix s [32] = false := by
  rw [Bool.eq_false_iff]
  intro hs
  unfold hasSuffix at hs
  obtain ⟨t, ht⟩ := List.isSuffixOf_iff_suffix.1 hs
  rw [← ht, lineOk_end] at h
  cases h
theorem clean_dec (n : Nat) : clean (decDigits n) := fun c hc => by
  have := decDigits_range n c hc
  refine ⟨fun e => ?_, fun e => ?_⟩ <;> (rw [e] at this; revert this; decide)
theorem clean_itoa (n : Int) : clean (itoa n) := fun c hc => ⟨fun e => itoa_no n (by rw [← e]; exact hc), fun e => itoa_no10 n (by rw [← e]; exact hc)⟩
theorem lineOk_nums : ∀ l : List Nat, lineOk (numsS l) = true
  | [] => rfl
  | n :: l => by rw [numsS_cons, lineOk_sp _ (clean_dec n) (decDigits_ne n)]; exact lineOk_nums l
theorem clean_name (i : Nat) (h : i < 100) : clean (nameL i) := by
  intro c hc
  simp only [nameL, List.mem_cons, List.not_mem_nil, or_false] at hc
  rcases hc with rfl | rfl
  · decide
  · have h2 : (UInt8.ofNat (97 + i)).toNat = 97 + i := by rw [UInt8.toNat_ofNat']; omega
    refine ⟨fun e => ?_, fun e => ?_⟩ <;> (rw [e] at h2; revert h2; simp; omega)
theorem lineOk_row {word : By} (i : Nat) (l : List Nat) (hw : clean word) (hi : i < 100) : lineOk (rowR word (nameL i) l) = true := by
  rw [rowR_eq, List.append_assoc, lineOk_word _ hw, List.cons_append, lineOk_sp _ (clean_name i hi) (by simp [nameL])]
  exact lineOk_nums l
theorem clean_first : clean wFirst := by unfold clean wFirst; decide
theorem clean_second : clean wSecond := by unfold clean wSecond; decide
theorem wErr_clean : ∀ a : Fin 11, 1 ≤ a.val → clean (wErr a.val) ∧ wErr a.val ≠ [] := by unfold clean; decide +kernel
theorem lineOk_rej (pol : Bool) (ln co er : Int) (h1 : 1 ≤ er) (h2 : er ≤ 10) : lineOk (rejS pol ln co er) = true := by
  have hc : clean wReject := by unfold clean wReject; decide
  obtain ⟨he, hn⟩ := wErr_clean ⟨er.toNat, by omega⟩ (by show 1 ≤ er.toNat; omega)
  have key : ∀ p : By, clean p → p ≠ [] → lineOk (wReject ++ ((32 :: p) ++ [32]) ++ itoa ln ++ ([32] : By) ++ itoa co ++ ([32] : By) ++ wErr er.toNat) = true := by
    intro p hp hpn
    have e : wReject ++ ((32 :: p) ++ [32]) ++ itoa ln ++ ([32] : By) ++ itoa co ++ ([32] : By) ++ wErr er.toNat = wReject ++ (32 :: (p ++ (32 :: (itoa ln ++ (32 :: (itoa co ++ (32 :: (wErr er.toNat ++ [])))))))) := by simp
    rw [e, lineOk_word _ hc, lineOk_sp _ hp hpn, lineOk_sp _ (clean_itoa ln) (itoa_ne ln), lineOk_sp _ (clean_itoa co) (itoa_ne co), lineOk_sp _ he hn]
    rfl
  unfold rejS
  cases pol
  · exact key [112, 114, 111, 103, 114, 97, 109] (by unfold clean; decide) (by simp)
  · exact key [112, 111, 108, 105, 99, 121] (by unfold clean; decide) (by simp)
theorem lkS_eq (lv m : Nat) (imp : Bool) (h : lv < m) : lkS lv imp (namesL m) = wLeak ++ (32 :: (([97, 116] : By) ++ (32 :: (nameL lv ++ (32 :: (wHow imp ++ [])))))) := by
  have e : (namesL m).getD lv [] = nameL lv := by simp [namesL, List.getD_eq_getElem?_getD, h]
  unfold lkS
  rw [e]; simp
theorem lineOk_lk (lv m : Nat) (imp : Bool) (h : lv < m) (hm : m ≤ 100) : lineOk (lkS lv imp (namesL m)) = true := by
  rw [lkS_eq lv m imp h, lineOk_word _ (by unfold clean wLeak; decide), lineOk_sp _ (by unfold clean; decide) (by simp), lineOk_sp _ (clean_name lv (by omega)) (by simp [nameL]), lineOk_sp _ (by cases imp <;> (unfold clean wHow; decide)) (by cases imp <;> simp [wHow])]
  rfl
/-! ### how long -/
theorem dec_len (n : Nat) (h : n ≤ 18446744073709551615) : (decDigits n).length ≤ 20 := by
  rw [decDigits_length]
  by_cases h0 : n = 0
  · subst h0; rw [nDigits_small (by omega)]; omega
  · obtain ⟨h1, h2⟩ := numDigits_eq n (by omega) (by omega)
    split at h1 <;> omega
theorem itoa_len (n : Int) (h : -9223372036854775808 ≤ n ∧ n ≤ 9223372036854775807) : (itoa n).length ≤ 21 := by
  unfold itoa
  split
  · have := dec_len n.natAbs (by omega)
    simp; omega
  · have := dec_len n.toNat (by omega)
    omega
theorem numsS_len : ∀ (l : List Nat), (∀ x ∈ l, x ≤ 18446744073709551615) → (numsS l).length ≤ 21 * l.length
  | [], _ => by simp [numsS]
  | n :: l, h => by
    have h1 := dec_len n (h n List.mem_cons_self)
    have h2 := numsS_len l fun x hx => h x (List.mem_cons_of_mem _ hx)
    rw [numsS_cons]
    simp only [List.length_cons, List.length_append]
    omega
theorem atL_ok {A : List (List Nat)} (h1 : ∀ l ∈ A, ∀ x ∈ l, x ≤ 18446744073709551615) (h2 : ∀ l ∈ A, l.length ≤ 20) (i : Nat) : (numsS (atL A i)).length ≤ 420 := by
  have h3 := numsS_len (atL A i) (atL_le h1 i)
  have h4 : (atL A i).length ≤ 20 := by
    unfold atL List.getD
    by_cases hi : i < A.length
    · rw [List.getElem?_eq_getElem hi]; exact h2 _ (List.getElem_mem hi)
    · rw [List.getElem?_eq_none (by omega)]; simp
  omega
theorem chanR_all (v : Vd) (n : Nat) (P : By → Prop) (h : ∀ i, i < n → P (rowR wFirst (nameL i) (atL v.A i)) ∧ P (rowR wSecond (nameL i) (atL v.B i))) : ∀ k, k ≤ n → ∀ z ∈ chanR v (namesL n) k, P z
  | 0, _, z, hz => by simp [chanR] at hz
  | k + 1, hk, z, hz => by
    rw [chanR_succ, List.mem_append] at hz
    have e : (namesL n).getD k [] = nameL k := by simp [namesL, List.getD_eq_getElem?_getD, show k < n by omega]
    rw [e] at hz
    rcases hz with hz | hz
    · exact chanR_all v n P h k (by omega) z hz
    · simp only [List.mem_cons, List.not_mem_nil, or_false] at hz
      rcases hz with rfl | rfl
      · exact (h k (by omega)).1
      · exact (h k (by omega)).2
/-- ReportCounts, plainly. -/
theorem counts {m n : Nat} {x : Vd} (hx : Mv m n x) (ok : VdOk x) (hA : ∀ l ∈ x.A, l.length ≤ 20) (hB : ∀ l ∈ x.B, l.length ≤ 20) (hm : m ≤ 100) (hn : n ≤ 100) :
    (wordR x.kind x.reason).2 = 0 ∧ (vlinesR x (namesL m) (namesL n)).1.length = (if x.kind = 1 then 1 + 2 * n else 1) ∧ (∃ z r, (vlinesR x (namesL m) (namesL n)).1 = z :: r ∧ hasPrefix z (wordR x.kind x.reason).1 = true ∧ decide (z = (wordR x.kind x.reason).1) = decide (x.kind = 0 ∨ x.kind = 2)) ∧
    ∀ z ∈ (vlinesR x (namesL m) (namesL n)).1, lineOk z = true ∧ z.length ≤ 1000 := by
  cases hx with
  | sec =>
    rw [vl_sec]
    exact ⟨rfl, rfl, ⟨_, _, rfl, by decide, by decide⟩, fun z hz => by simp at hz; subst hz; exact ⟨by decide, by decide⟩⟩
  | inc r h1 h2 =>
    rw [vl_inc r h1 h2]
    obtain rfl | rfl | rfl | rfl : r = 1 ∨ r = 2 ∨ r = 3 ∨ r = 4 := by omega
    all_goals exact ⟨rfl, rfl, ⟨_, _, rfl, by decide, by decide⟩, fun z hz => by simp at hz; subst hz; exact ⟨by decide, by decide⟩⟩
  | rej pol ln co er h1 h2 =>
    rw [vl_rej pol ln co er h1 h2]
    refine ⟨rfl, rfl, ⟨_, _, rfl, ?_, ?_⟩, fun z hz => ?_⟩
    · show hasPrefix (rejS pol ln co er) wReject = true
      unfold hasPrefix rejS
      rw [List.isPrefixOf_iff_prefix]
      simp only [List.append_assoc]
      exact List.prefix_append _ _
    · show decide (rejS pol ln co er = wReject) = false
      rw [decide_eq_false_iff_not]
      intro e
      have := congrArg List.length e
      unfold rejS at this
      have h3 := List.length_pos_iff.2 (itoa_ne ln)
      simp only [List.length_append] at this
      omega
    · simp only [List.mem_singleton] at hz
      subst hz
      refine ⟨lineOk_rej pol ln co er h1 h2, ?_⟩
      have g1 := itoa_len ln ok.line
      have g2 := itoa_len co ok.col
      have g3 := wErr_len er.toNat
      have g4 : wReject.length = 6 := rfl
      unfold rejS
      cases pol <;> simp only [List.length_append, List.length_cons, List.length_nil, if_true, Bool.false_eq_true, if_false] <;> omega
  | lk lv A B imp h1 h2 h3 =>
    rw [vl_lk lv A B imp _ _ (by rw [namesL_len]; omega) (by rw [namesL_len]; omega) (by rw [namesL_len]; omega)]
    refine ⟨rfl, ?_, ⟨_, _, rfl, ?_, ?_⟩, ?_⟩
    · rw [List.length_cons, namesL_len, chanR_length]; simp; omega
    · show hasPrefix (lkS lv imp (namesL m)) wLeak = true
      rw [lkS_eq lv m imp h1]
      unfold hasPrefix
      rw [List.isPrefixOf_iff_prefix]
      exact List.prefix_append _ _
    · show decide (lkS lv imp (namesL m) = wLeak) = false
      rw [decide_eq_false_iff_not, lkS_eq lv m imp h1]
      intro e
      have := congrArg List.length e
      simp at this
    · intro z hz
      rcases List.mem_cons.1 hz with rfl | hz
      · refine ⟨lineOk_lk lv m imp h1 hm, ?_⟩
        rw [lkS_eq lv m imp h1]
        cases imp <;> simp [wLeak, nameL, wHow]
      · rw [namesL_len] at hz
        refine chanR_all ⟨1, 0, (lv : Int), A, B, imp, false, 0, 0, 0⟩ n (fun z => lineOk z = true ∧ z.length ≤ 1000) (fun i hi => ⟨⟨lineOk_row i _ clean_first (by omega), ?_⟩, ⟨lineOk_row i _ clean_second (by omega), ?_⟩⟩) n (Nat.le_refl _) z hz
        · have := atL_ok ok.A hA i
          rw [rowR_eq]; simp only [List.length_append, List.length_cons, wFirst, nameL, List.length_nil]; dsimp only at this ⊢; omega
        · have := atL_ok ok.B hB i
          rw [rowR_eq]; simp only [List.length_append, List.length_cons, wSecond, nameL, List.length_nil]; dsimp only at this ⊢; omega
/-- The rows of a verdict made valid are short. -/
theorem made_rows (v : Vd) (m c : Nat) : (∀ l ∈ (madeV v m c).A, l.length ≤ 20) ∧ ∀ l ∈ (madeV v m c).B, l.length ≤ 20 := by
  have key : ∀ (A : List (List Nat)), ∀ l ∈ (List.range c).map (atL (cutL A)), l.length ≤ 20 := by
    intro A l hl
    obtain ⟨i, _, rfl⟩ := List.mem_map.1 hl
    unfold atL List.getD
    by_cases hi : i < (cutL A).length
    · rw [List.getElem?_eq_getElem hi]
      have hm := List.getElem_mem hi
      generalize (cutL A)[i] = z at *
      unfold cutL at hm
      obtain ⟨y, _, rfl⟩ := List.mem_map.1 hm
      show (y.take 20).length ≤ 20
      rw [List.length_take]; omega
    · rw [List.getElem?_eq_none (by omega)]; simp
  unfold madeV
  split
  · exact ⟨fun l hl => absurd hl (by simp), fun l hl => absurd hl (by simp)⟩
  · split
    · exact ⟨fun l hl => absurd hl (by simp), fun l hl => absurd hl (by simp)⟩
    · split
      · exact ⟨key _, key _⟩
      · exact ⟨fun l hl => absurd hl (by simp), fun l hl => absurd hl (by simp)⟩
/-! ### turns -/
theorem chanR_get (v : Vd) (n : Nat) : ∀ (k : Nat), k ≤ n → ∀ j, j < k → (chanR v (namesL n) k)[2 * j]? = some (rowR wFirst (nameL j) (atL v.A j)) ∧ (chanR v (namesL n) k)[2 * j + 1]? = some (rowR wSecond (nameL j) (atL v.B j))
  | 0, _, j, hj => by omega
  | k + 1, hk, j, hj => by
    have e : (namesL n).getD k [] = nameL k := by simp [namesL, List.getD_eq_getElem?_getD, show k < n by omega]
    rw [chanR_succ, e]
    have hl := chanR_length v (namesL n) k
    by_cases hjk : j = k
    · subst hjk
      rw [List.getElem?_append_right (by omega), List.getElem?_append_right (by omega), hl]
      simp
    · obtain ⟨h1, h2⟩ := chanR_get v n k (by omega) j (by omega)
      rw [List.getElem?_append_left (by omega), List.getElem?_append_left (by omega)]
      exact ⟨h1, h2⟩
def pFirst : By := [102, 105, 114, 115, 116, 32]
def pSecond : By := [115, 101, 99, 111, 110, 100, 32]
theorem first_trim (name : By) (l : List Nat) : trimPrefix (rowR wFirst name l) pFirst = name ++ numsS l ∧ hasPrefix (rowR wFirst name l) pFirst = true := by
  have e : rowR wFirst name l = pFirst ++ (name ++ numsS l) := by rw [rowR_eq]; simp [wFirst, pFirst]
  have h : hasPrefix (rowR wFirst name l) pFirst = true := by rw [e]; unfold hasPrefix; rw [List.isPrefixOf_iff_prefix]; exact List.prefix_append _ _
  refine ⟨?_, h⟩
  unfold trimPrefix
  rw [if_pos h, e, List.drop_left]
theorem second_trim (name : By) (l : List Nat) : trimPrefix (rowR wSecond name l) pSecond = name ++ numsS l ∧ hasPrefix (rowR wSecond name l) pSecond = true := by
  have e : rowR wSecond name l = pSecond ++ (name ++ numsS l) := by rw [rowR_eq]; simp [wSecond, pSecond]
  have h : hasPrefix (rowR wSecond name l) pSecond = true := by rw [e]; unfold hasPrefix; rw [List.isPrefixOf_iff_prefix]; exact List.prefix_append _ _
  refine ⟨?_, h⟩
  unfold trimPrefix
  rw [if_pos h, e, List.drop_left]
/-- A verdict with both lists exchanged. -/
def turnV (x : Vd) : Vd := ⟨x.kind, x.reason, x.level, x.B, x.A, x.imp, x.pol, x.line, x.col, x.err⟩
theorem turn_mv {m n : Nat} {x : Vd} (h : Mv m n x) : Mv m n (turnV x) := by
  cases h with
  | sec => exact .sec
  | inc r h1 h2 => exact .inc r h1 h2
  | rej pol ln co er h1 h2 => exact .rej pol ln co er h1 h2
  | lk lv A B imp h1 h2 h3 => exact .lk lv B A imp h1 h3 h2
theorem turn_ok {x : Vd} (h : VdOk x) : VdOk (turnV x) := ⟨h.kind, h.reason, h.level, h.line, h.col, h.err, h.B, h.A⟩
theorem turns {m n : Nat} {x : Vd} (hx : Mv m n x) (hk : x.kind = 1) : ∃ (z : By) (r1 r2 : List By), (vlinesR x (namesL m) (namesL n)).1 = z :: r1 ∧ (vlinesR (turnV x) (namesL m) (namesL n)).1 = z :: r2 ∧ r1.length = 2 * n ∧ r2.length = 2 * n ∧
    ∀ j, j < n → ∃ s1 s2 s3 s4 t t', r1[2 * j]? = some s1 ∧ r1[2 * j + 1]? = some s3 ∧ r2[2 * j]? = some s4 ∧ r2[2 * j + 1]? = some s2 ∧ trimPrefix s1 pFirst = t ∧ trimPrefix s2 pSecond = t ∧ trimPrefix s3 pSecond = t' ∧ trimPrefix s4 pFirst = t' ∧ hasPrefix s1 pFirst = true ∧ hasPrefix s2 pSecond = true := by
  cases hx with
  | sec => cases hk
  | inc r h1 h2 => cases hk
  | rej pol ln co er h1 h2 => cases hk
  | lk lv A B imp h1 h2 h3 =>
    unfold turnV
    dsimp only
    rw [vl_lk lv A B imp _ _ (by rw [namesL_len]; omega) (by rw [namesL_len]; omega) (by rw [namesL_len]; omega), vl_lk lv B A imp _ _ (by rw [namesL_len]; omega) (by rw [namesL_len]; omega) (by rw [namesL_len]; omega)]
    refine ⟨_, _, _, rfl, rfl, by rw [namesL_len, chanR_length], by rw [namesL_len, chanR_length], fun j hj => ?_⟩
    rw [namesL_len]
    obtain ⟨g1, g2⟩ := chanR_get ⟨1, 0, (lv : Int), A, B, imp, false, 0, 0, 0⟩ n n (Nat.le_refl _) j hj
    obtain ⟨g3, g4⟩ := chanR_get ⟨1, 0, (lv : Int), B, A, imp, false, 0, 0, 0⟩ n n (Nat.le_refl _) j hj
    exact ⟨_, _, _, _, _, _, g1, g2, g3, g4, (first_trim _ _).1, (second_trim _ _).1, (second_trim _ _).1, (first_trim _ _).1, (first_trim _ _).2, (second_trim _ _).2⟩

end Go.Proofs.YtehjfmbnebeioaaDoor
