/-
  Formulas as texts, plainly: what dimacs' functions compute. No program in sight.
-/
import Derived.Lib.AtoiAll
import Derived.Lib.ItoaNum
import Derived.Lib.FieldsP
import Derived.Lib.MapLaws
import Derived.Lib.SlTrimSet
import Derived.Lib.TrimUEq
namespace Go.Proofs.YtfllhhgnflpagaaDoor
set_option linter.unusedSimpArgs false
set_option linter.unusedVariables false

abbrev Bs := List UInt8
/-! ### words of a line -/
def isBl (b : UInt8) : Bool := b == 32 || b == 9
def flushB (cur : Bs) (acc : List Bs) : List Bs := if cur = [] then acc else acc ++ [cur]
/-- The words of a line; cur: the word under way. -/
def fldF : Bs → Bs → List Bs → List Bs
  | [], cur, acc => flushB cur acc
  | b :: t, cur, acc => if isBl b then fldF t [] (flushB cur acc) else fldF t (cur ++ [b]) acc
def fields (s : Bs) : List Bs := fldF s [] []

theorem fldF_skip : ∀ (l t cur : Bs) (acc : List Bs), (∀ b ∈ l, isBl b = false) → fldF (l ++ t) cur acc = fldF t (cur ++ l) acc
  | [], t, cur, acc, _ => by simp
  | b :: l, t, cur, acc, h => by
    have hb := h b (by simp)
    rw [List.cons_append, fldF, hb]
    simp only [Bool.false_eq_true, if_false]
    rw [fldF_skip l t (cur ++ [b]) acc (fun c hc => h c (by simp [hc])), List.append_assoc]
    rfl

/-! ### lines -/
def cutNL : Bs → Bs × Bs
  | [] => ([], [])
  | c :: r => if c = 10 then ([], r) else (c :: (cutNL r).1, (cutNL r).2)
theorem cutNL_len : ∀ s : Bs, s ≠ [] → (cutNL s).2.length < s.length
  | [], h => absurd rfl h
  | c :: r, _ => by
    unfold cutNL
    split
    · simp
    · by_cases hr : r = []
      · subst hr; simp [cutNL]
      · have := cutNL_len r hr
        simp only [List.length_cons]; omega
/-- The lines of a text. -/
def linesM (s : Bs) : List Bs := if h : s = [] then [] else (cutNL s).1 :: linesM (cutNL s).2
termination_by s.length
decreasing_by exact cutNL_len s h
theorem linesM_nil : linesM [] = [] := by rw [linesM]; simp
theorem linesM_cons {s : Bs} (h : s ≠ []) : linesM s = (cutNL s).1 :: linesM (cutNL s).2 := by rw [linesM]; simp [h]

/-! ### numbers -/
def digitsOf : Bs → Bs
  | 45 :: t => t
  | s => s
def isDig (b : UInt8) : Bool := decide (48 ≤ b.toNat) && decide (b.toNat ≤ 57)
def natFrom (n : Nat) (l : Bs) : Nat := l.foldl (fun n b => n * 10 + (b.toNat - 48)) n
def natOf (l : Bs) : Nat := natFrom 0 l
def capI (n : Nat) : Int := if n < 9223372036854775808 then n else 4611686018427387904
def okDig (s : Bs) : Bool := !(digitsOf s == []) && !(decide (1 < (digitsOf s).length) && (digitsOf s).head? == some 48) && !(s == [45, 48]) && (digitsOf s).all isDig
def numM (s : Bs) : Option Int := if okDig s then some (if digitsOf s = s then capI (natOf (digitsOf s)) else - capI (natOf (digitsOf s))) else none

/-! ### the header; errors: 3 range, 4 form, 5 long -/
def headM (l : List Bs) : Int × Int × Int :=
  if l.length = 4 ∧ l[0]? = some [112] ∧ l[1]? = some [99, 110, 102] then
    match numM (l.getD 2 []), numM (l.getD 3 []) with
    | some v, some c =>
      if (l.getD 2 []).head? = some 45 ∨ (l.getD 3 []).head? = some 45 then (0, 0, 4)
      else if 1048576 < v then (0, 0, 3)
      else if 1048576 < c then (0, 0, 5)
      else (v, c, 0)
    | _, _ => (0, 0, 4)
  else (0, 0, 4)

/-! ### the reader -/
/-- What is read: the clauses that have not ended (-1: no header yet), the variables, the clauses, the clause under way. -/
structure PS where
  left : Int
  vars : Int
  cls : List (List Int)
  c : List Int
/-- One word (or, first, the header). -/
def stepP (st : PS) (l : List Bs) : Except Int PS :=
  if st.left < 0 then
    (if (headM l).2.2 = 0 then .ok { st with vars := (headM l).1, left := (headM l).2.1 } else .error (headM l).2.2)
  else
    match numM (l.headD []) with
    | none => .error 4
    | some v =>
      if st.left = 0 then .error 4
      else if st.vars < v ∨ v < -st.vars then .error 3
      else if v = 0 then .ok { st with cls := st.cls ++ [st.c], c := [], left := st.left - 1 }
      else if st.c.length = 4096 then .error 5
      else .ok { st with c := st.c ++ [v] }
/-- All the words of a line. -/
def stepW (st : PS) : List Bs → Except Int PS
  | [] => .ok st
  | x :: r => match stepP st [x] with
    | .error e => .error e
    | .ok st' => stepW st' r
/-- A line, as its words. -/
def stepL (st : PS) (hd : Bool) (l : List Bs) : Except Int (PS × Bool) :=
  if l = [] ∨ l.head? = some [99] then .ok (st, hd)
  else if hd then (stepP st l).map (·, false)
  else (stepW st l).map (·, false)
/-- Lines, from line n on. -/
def runL (n : Nat) (st : PS) (hd : Bool) : List Bs → Except (Nat × Int) (PS × Bool)
  | [] => .ok (st, hd)
  | x :: r => match stepL st hd (fields x) with
    | .error e => .error (n, e)
    | .ok (st', hd') => runL (n + 1) st' hd' r
def ps0 : PS := ⟨-1, 0, [], []⟩
/-- dimacs.Parse: variables, clauses, line, error. -/
def parseM (s : Bs) : (Int × List (List Int)) × Int × Int :=
  if 65536 < s.length then ((0, []), 0, 5)
  else match runL 1 ps0 true (linesM s) with
    | .error (n, e) => ((0, []), n, e)
    | .ok (st, _) => if st.left ≠ 0 then ((0, []), (linesM s).length + 1, 4) else ((st.vars, st.cls), 0, 0)

/-! ### the writer -/
def sp : Bs := [32]
/-- Is a clause valid for n variables. -/
def litM (n : Int) (c : List Int) : Int :=
  if n < 0 ∨ 1048576 < n then 3
  else if 4096 < c.length then 5
  else if c.any (fun a => a == 0 || decide (n < a.natAbs)) then 3 else 0
/-- The first error of the clauses. -/
def litsM (n : Int) : List (List Int) → Int
  | [] => 0
  | c :: r => if litM n c ≠ 0 then litM n c else litsM n r
def checkM (n : Int) (l : List (List Int)) : Int :=
  if n < 0 ∨ 1048576 < n then 3 else if 1048576 < l.length then 5 else litsM n l
def clauseT (c : List Int) : Bs := (c.flatMap fun a => Lib.itoa a ++ [32]) ++ [48, 10]
def headT (n : Int) (k : Nat) : Bs := [112, 32, 99, 110, 102, 32] ++ Lib.itoa n ++ [32] ++ Lib.itoa k ++ [10]
def textM (n : Int) (l : List (List Int)) : Bs := headT n l.length ++ l.flatMap clauseT
def formatM (n : Int) (l : List (List Int)) : Bs × Int :=
  if checkM n l ≠ 0 then ([], checkM n l) else if 65536 < (textM n l).length then ([], 5) else (textM n l, 0)

end Go.Proofs.YtfllhhgnflpagaaDoor
