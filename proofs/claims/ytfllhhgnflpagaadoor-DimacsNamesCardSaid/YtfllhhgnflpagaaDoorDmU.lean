/-
  What the reference's Lines and number compute, and that these are the lines and numbers of the reader. Plain.
-/
import Derived.Test.YtfllhhgnflpagaaDoorDmP
namespace Go.Proofs.YtfllhhgnflpagaaDoor
set_option linter.unusedSimpArgs false
set_option linter.unusedVariables false

/-! ### lines -/
/-- The reference's loop: nl: nothing stands on the line as yet. -/
def lr : Bs → Bool → List (List Bs) → List Bs → Bs → List (List Bs)
  | [], nl, out, line, word => if nl then out else out ++ [flushB word line]
  | c :: r, nl, out, line, word =>
    if c = 10 then lr r true (out ++ [flushB word line]) [] []
    else if isBl c then lr r false out (flushB word line) []
    else lr r false out line (word ++ [c])
theorem flushB_nil (l : List Bs) : flushB [] l = l := by simp [flushB]
theorem lr_eq : ∀ (s : Bs) (nl : Bool) (out : List (List Bs)) (line : List Bs) (word : Bs),
    lr s nl out line word = out ++ (if s = [] then (if nl then [] else [flushB word line]) else fldF (cutNL s).1 word line :: (linesM (cutNL s).2).map fields)
  | [], nl, out, line, word => by unfold lr; cases nl <;> simp
  | c :: r, nl, out, line, word => by
    unfold lr
    rw [if_neg (List.cons_ne_nil _ _)]
    unfold cutNL
    by_cases h : c = 10
    · rw [if_pos h, if_pos h, lr_eq]
      simp only [fldF]
      by_cases hr : r = []
      · subst hr; simp [linesM_nil]
      · rw [if_neg hr, linesM_cons hr]
        simp [fields]
    · rw [if_neg h, if_neg h]
      simp only [fldF]
      by_cases hb : isBl c = true
      · rw [if_pos hb, if_pos hb, lr_eq]
        by_cases hr : r = []
        · subst hr; simp [cutNL, fldF, linesM_nil, flushB_nil]
        · rw [if_neg hr]
      · rw [if_neg hb, if_neg hb, lr_eq]
        by_cases hr : r = []
        · subst hr; simp [cutNL, fldF, linesM_nil]
        · rw [if_neg hr]
theorem lr_lines (s : Bs) : lr s true [] [] [] = (linesM s).map fields := by
  rw [lr_eq]
  by_cases h : s = []
  · subst h; simp [linesM_nil]
  · rw [if_neg h, linesM_cons h]; simp [fields]

/-! ### numbers -/
def capR (n : Nat) : Int := if n < 1099511627776 then n else 1099511627776
def numR (s : Bs) : Int := if okDig s then (if digitsOf s = s then capR (natOf (digitsOf s)) else - capR (natOf (digitsOf s))) else 0
theorem natFrom_geU : ∀ (l : Bs) (n : Nat), n ≤ natFrom n l
  | [], n => Nat.le_refl _
  | b :: t, n => by
    show n ≤ natFrom (n * 10 + (b.toNat - 48)) t
    exact Nat.le_trans (by omega) (natFrom_geU t _)
theorem natOf_snoc (l : Bs) (b : UInt8) : natOf (l ++ [b]) = natOf l * 10 + (b.toNat - 48) := by simp [natOf, natFrom, List.foldl_append]
theorem capR_snoc (l : Bs) (b : UInt8) : (if 10 * capR (natOf l) + ((b.toNat - 48 : Nat) : Int) < 1099511627776 then 10 * capR (natOf l) + ((b.toNat - 48 : Nat) : Int) else 1099511627776) = capR (natOf (l ++ [b])) := by
  rw [natOf_snoc]
  unfold capR
  split <;> split <;> split <;> omega
theorem okDig_parts {s : Bs} (h : okDig s = true) : digitsOf s ≠ [] ∧ ¬ (1 < (digitsOf s).length ∧ (digitsOf s).head? = some 48) ∧ s ≠ [45, 48] ∧ (digitsOf s).all isDig = true := by
  unfold okDig at h
  simp only [Bool.and_eq_true, Bool.not_eq_true', Bool.and_eq_false_iff, beq_eq_false_iff_ne, decide_eq_false_iff_not] at h
  obtain ⟨⟨⟨h1, h2⟩, h3⟩, h4⟩ := h
  refine ⟨h1, fun ⟨a, b⟩ => ?_, h3, h4⟩
  rcases h2 with h2 | h2
  · exact h2 a
  · rw [b] at h2; exact h2 rfl
theorem natOf_pos {d : Bs} (h0 : d ≠ []) (h1 : ¬ (1 < d.length ∧ d.head? = some 48)) (h2 : d ≠ [48]) (h3 : d.all isDig = true) : 1 ≤ natOf d := by
  cases d with
  | nil => exact absurd rfl h0
  | cons b t =>
    have hb : isDig b = true := by simp at h3; exact h3.1
    simp only [isDig, Bool.and_eq_true, decide_eq_true_eq] at hb
    have hne : b ≠ 48 := by
      rintro rfl
      cases t with
      | nil => exact h2 rfl
      | cons c t => exact h1 ⟨by simp, rfl⟩
    have : b.toNat ≠ 48 := fun e => hne (UInt8.toNat_inj.1 (by rw [e]; rfl))
    show 1 ≤ natFrom (0 * 10 + (b.toNat - 48)) t
    exact Nat.le_trans (by omega) (natFrom_geU t _)
theorem digitsOf_neg {s : Bs} (h : s.head? = some 45) : s = 45 :: digitsOf s := by
  cases s with
  | nil => cases h
  | cons b t => simp at h; subst h; rfl
theorem digitsOf_pos {s : Bs} (h : ¬ s.head? = some 45) : digitsOf s = s := by
  cases s with
  | nil => rfl
  | cons b t =>
    unfold digitsOf
    split
    · rename_i e; cases e; exact absurd rfl h
    · rfl
/-- Numbers that say the same below 2^40. -/
def SameNum (v r : Int) : Prop := (v = r ∧ -1099511627776 < v ∧ v < 1099511627776) ∨ (1099511627776 ≤ v ∧ 1099511627776 ≤ r) ∨ (v ≤ -1099511627776 ∧ r ≤ -1099511627776)
theorem cap_same (n : Nat) : SameNum (capI n) (capR n) := by
  unfold SameNum capI capR
  split <;> split <;> omega
theorem SameNum.neg {v r : Int} (h : SameNum v r) : SameNum (-v) (-r) := by unfold SameNum at *; omega
theorem numR_none {s : Bs} (h : okDig s = false) : numM s = none := by unfold numM; rw [h]; rfl
theorem numR_some {s : Bs} (h : okDig s = true) : ∃ v, numM s = some v ∧ SameNum v (numR s) ∧ (numR s < 0 ↔ s.head? = some 45) := by
  obtain ⟨h1, h2, h3, h4⟩ := okDig_parts h
  unfold numM numR
  rw [if_pos h, if_pos h]
  by_cases hn : s.head? = some 45
  · have e := digitsOf_neg hn
    have hne : ¬ digitsOf s = s := fun e2 => by rw [e2] at e; have := congrArg List.length e; simp at this
    rw [if_neg hne, if_neg hne]
    have hd : digitsOf s ≠ [48] := fun e2 => h3 (by rw [e, e2])
    have hp := natOf_pos h1 h2 hd h4
    refine ⟨_, rfl, (cap_same _).neg, fun _ => hn, fun _ => ?_⟩
    unfold capR; split <;> omega
  · rw [if_pos (digitsOf_pos hn), if_pos (digitsOf_pos hn)]
    refine ⟨_, rfl, cap_same _, fun h => ?_, fun h => absurd h hn⟩
    unfold capR at h; split at h <;> omega
/-- The header by the reference's numbers. -/
theorem headM_ref (a b c d : Bs) : headM [a, b, c, d] = if a = [112] ∧ b = [99, 110, 102] then
    (if okDig c = true ∧ okDig d = true ∧ 0 ≤ numR c ∧ 0 ≤ numR d then (if 1048576 < numR c then (0, 0, 3) else if 1048576 < numR d then (0, 0, 5) else (numR c, numR d, 0)) else (0, 0, 4)) else (0, 0, 4) := by
  have e0 : ([a, b, c, d].length = 4 ∧ [a, b, c, d][0]? = some [112] ∧ [a, b, c, d][1]? = some [99, 110, 102]) ↔ (a = [112] ∧ b = [99, 110, 102]) := by simp
  unfold headM
  by_cases h : a = [112] ∧ b = [99, 110, 102]
  · rw [if_pos (e0.2 h), if_pos h]
    have g2 : [a, b, c, d].getD 2 [] = c := rfl
    have g3 : [a, b, c, d].getD 3 [] = d := rfl
    rw [g2, g3]
    cases hc : okDig c with
    | false => rw [numR_none hc]; simp
    | true =>
      obtain ⟨v, hv, s1, p1⟩ := numR_some hc
      cases hd : okDig d with
      | false => rw [hv, numR_none hd]; simp
      | true =>
        obtain ⟨u, hu, s2, p2⟩ := numR_some hd
        rw [hv, hu]
        have q1 : (c.head? = some 45 ∨ d.head? = some 45) ↔ (numR c < 0 ∨ numR d < 0) := by rw [p1, p2]
        unfold SameNum at s1 s2
        show (if c.head? = some 45 ∨ d.head? = some 45 then ((0 : Int), (0 : Int), (4 : Int)) else if 1048576 < v then (0, 0, 3) else if 1048576 < u then (0, 0, 5) else (v, u, 0)) = _
        by_cases hn : numR c < 0 ∨ numR d < 0
        · rw [if_pos (q1.2 hn), if_neg (fun e => by omega)]
        · rw [if_neg (fun e => hn (q1.1 e)), if_pos (show true = true ∧ true = true ∧ 0 ≤ numR c ∧ 0 ≤ numR d from ⟨rfl, rfl, by omega, by omega⟩)]
          by_cases h3 : 1048576 < numR c
          · rw [if_pos (show 1048576 < v by omega), if_pos h3]
          · rw [if_neg (show ¬ 1048576 < v by omega), if_neg h3]
            by_cases h4 : 1048576 < numR d
            · rw [if_pos (show 1048576 < u by omega), if_pos h4]
            · rw [if_neg (show ¬ 1048576 < u by omega), if_neg h4]
              rw [show v = numR c by omega, show u = numR d by omega]
  · rw [if_neg (fun e => h (e0.1 e)), if_neg h]
theorem headM_len {l : List Bs} (h : l.length ≠ 4) : headM l = (0, 0, 4) := by unfold headM; rw [if_neg (fun e => h e.1)]

end Go.Proofs.YtfllhhgnflpagaaDoor
