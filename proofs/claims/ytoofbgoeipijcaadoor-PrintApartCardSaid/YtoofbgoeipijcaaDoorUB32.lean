/-
 Reading programs: the plain model of package parse (no program in sight).
 Numbers: the program's and the reference's walks.
 Decimal numerals, with zeros ahead: the numbers that they are. No program in sight.
-/
import Derived.Test.YtoofbgoeipijcaaDoorUSPrP
import Derived.Test.YtoofbgoeipijcaaDoorUB3
import Derived.IntWalk
import Derived.Lib.ItoaNum
namespace Go.Proofs.YtoofbgoeipijcaaDoor
set_option linter.unusedSimpArgs false
set_option linter.unusedVariables false
open Go.RowKit Go.Shelf

abbrev PE (α : Type) := Except Flt α
def wpos (w : Wd) : Int × Int := ((w.2.1 : Int), (w.2.2 : Int))
def needM (b : Bool) (pos : Int × Int) (e : Int) : PE Unit := if b then .ok () else .error (pos, e)
def nextP (f : Int × Int) : List Wd → PE (Wd × List Wd)
 | [] => .error (f, 4)
 | w :: r => .ok (w, r)
def endP : List Wd → PE Unit
 | [] => .ok ()
 | w :: _ => .error (wpos w, 4)
def nameP (f : Int × Int) (ws : List Wd) : PE (Wd × List Wd) := do
 let (w, r) ← nextP f ws
 needM (namedB w.1) (wpos w) 4
 pure (w, r)
def freshP (f : Int × Int) (had : List Bs) (ws : List Wd) : PE (Bs × List Wd) := do
 let (w, r) ← nameP f ws
 needM (!had.contains w.1) (wpos w) 8
 pure (w.1, r)
def knownP (f : Int × Int) (had : List Bs) (ws : List Wd) : PE (Bs × List Wd) := do
 let (w, r) ← nameP f ws
 needM (had.contains w.1) (wpos w) 6
 pure (w.1, r)
def numberP (f : Int × Int) (most : Nat) (ws : List Wd) : PE (Nat × List Wd) := do
 let (w, r) ← nextP f ws
 needM (decide ((numR w.1).2 = 0)) (wpos w) (numR w.1).2
 needM (decide (1 ≤ (numR w.1).1) && decide ((numR w.1).1 ≤ most)) (wpos w) 3
 pure ((numR w.1).1, r)
def operandP (f : Int × Int) (ws : List Wd) : PE (Ag × List Wd) := do
 let (w, r) ← nextP f ws
 if digB (w.1.headD 0) then
  needM (decide ((numR w.1).2 = 0)) (wpos w) (numR w.1).2
  pure (⟨[], (numR w.1).1⟩, r)
 else
  needM (namedB w.1) (wpos w) 4
  pure (⟨w.1, 0⟩, r)
def operandsP (f : Int × Int) : Nat → List Wd → PE (List Ag × List Wd)
 | 0, ws => pure ([], ws)
 | n + 1, ws => do
  let (a, r) ← operandP f ws
  let (l, q) ← operandsP f n r
  pure (a :: l, q)
/-- The operands of a call: all words that are left. -/
def restP (f : Int × Int) : Nat → List Wd → PE (List Ag)
 | _, [] => pure []
 | k, w :: r => do
  needM (decide (k < 32)) (wpos w) 5
  let (a, _) ← operandP f [w]
  let l ← restP f (k + 1) r
  pure (a :: l)
/-- The parameters of a function: all words that are left. -/
def paramsP (f : Int × Int) : List Bs → List Wd → PE (List Bs)
 | had, [] => pure had
 | had, w :: r => do
  needM (decide (had.length < 32)) (wpos w) 5
  let (s, _) ← freshP f had [w]
  paramsP f (had ++ [s]) r
def siteP (f : Int × Int) (sites : List Bs) (ws : List Wd) : PE (Bs × List Bs × List Wd) := do
 let (w, r) ← nextP f ws
 needM (sites.contains w.1 || decide (sites.length < 32)) (wpos w) 5
 needM (namedB w.1) (wpos w) 4
 pure (w.1, (if sites.contains w.1 then sites else sites ++ [w.1]), r)
/-- A program so far. inn: 0 declarations, 1 a function, 2 main, 3 behind main. -/
structure PS where
 p : Pg
 labels : List Bs
 sites : List Bs
 inn : Nat
 step : Nat
def anamesP (p : Pg) : List Bs := p.arrays.map Ar.nm
def kLoad : Bs := [108, 111, 97, 100]
def kStore : Bs := [115, 116, 111, 114, 101]
def kCall : Bs := [99, 97, 108, 108]
def wkIn : Bs := [105, 110]
def kOut : Bs := [111, 117, 116]
def kRelease : Bs := [114, 101, 108, 101, 97, 115, 101]
def kJump : Bs := [106, 117, 109, 112]
def kIf : Bs := [105, 102]
def kHalt : Bs := [104, 97, 108, 116]
def kRet : Bs := [114, 101, 116]
def kEnd : Bs := [101, 110, 100]
def kMain : Bs := [109, 97, 105, 110]
def kFunc : Bs := [102, 117, 110, 99]
def kChan : Bs := [99, 104, 97, 110]
def kArray : Bs := [97, 114, 114, 97, 121]
def kWidth : Bs := [119, 105, 100, 116, 104]
def in0 : In := ⟨0, 0, [], [], [], (0, 0)⟩
/-- A line that gives a variable something. -/
def assignP (st : PS) (f : Int × Int) (dst : Bs) (ws : List Wd) : PE (In × List Bs × List Wd) := do
 let (w, r) ← nextP f ws
 needM (decide (w.1 = [61])) (wpos w) 4
 let (v, q) ← nextP f r
 if v.1 = kLoad then do
  let (s, q) ← knownP f (anamesP st.p) q
  let (l, q) ← operandsP f 1 q
  pure ({ in0 with kind := 2, dst := dst, nm := s, args := l }, st.sites, q)
 else if v.1 = kRelease then do
  let (s, sites, q) ← siteP f st.sites q
  let (l, q) ← operandsP f 1 q
  pure ({ in0 with kind := 7, dst := dst, nm := s, args := l }, sites, q)
 else if v.1 = kCall then do
  let (w, q) ← nameP f q
  let l ← restP f 0 q
  pure ({ in0 with kind := 4, dst := dst, nm := w.1, args := l }, st.sites, [])
 else if opB v.1 && decide (opL.idxOf v.1 + 2 ≠ 21) then do
  let (l, q) ← operandsP f (arityM (opL.idxOf v.1 + 2)) q
  pure ({ in0 with kind := 1, op := opL.idxOf v.1 + 2, dst := dst, args := l }, st.sites, q)
 else do
  let (l, q) ← operandsP f 1 r
  pure ({ in0 with dst := dst, args := l }, st.sites, q)
/-- Is a word a label. -/
def labelP (s : Bs) : Option Bs := if s.getLast? = some 58 ∧ namedB s.dropLast = true then some s.dropLast else none
/-- An instruction: it, the labels and the sites behind it, what is left. -/
def instrP (st : PS) (f : Int × Int) (w : Wd) (r : List Wd) : PE (In × List Bs × List Bs × List Wd) :=
 if w.1 = kStore then do
  let (s, q) ← knownP f (anamesP st.p) r
  let (l, q) ← operandsP f 2 q
  pure ({ in0 with kind := 3, nm := s, args := l }, st.labels, st.sites, q)
 else if w.1 = wkIn then do
  let (d, q) ← nameP f r
  let (s, q) ← knownP f st.p.chans q
  pure ({ in0 with kind := 5, dst := d.1, nm := s }, st.labels, st.sites, q)
 else if w.1 = kOut then do
  let (s, q) ← knownP f st.p.chans r
  let (l, q) ← operandsP f 1 q
  pure ({ in0 with kind := 6, nm := s, args := l }, st.labels, st.sites, q)
 else if w.1 = kJump then do
  let (s, q) ← nameP f r
  pure ({ in0 with kind := 8, nm := s.1 }, st.labels, st.sites, q)
 else if w.1 = kIf then do
  let (l, q) ← operandsP f 1 r
  let (s, q) ← nameP f q
  pure ({ in0 with kind := 9, nm := s.1, args := l }, st.labels, st.sites, q)
 else if w.1 = kHalt then pure ({ in0 with kind := 11 }, st.labels, st.sites, r)
 else if w.1 = kRet then do
  needM (decide (st.inn = 1)) f 4
  let (l, q) ← operandsP f 1 r
  pure ({ in0 with kind := 12, args := l }, st.labels, st.sites, q)
 else match labelP w.1 with
  | some s => do
   needM (!st.labels.contains s) (wpos w) 8
   pure ({ in0 with kind := 10, nm := s }, st.labels ++ [s], st.sites, r)
  | none => do
   needM (namedB w.1) (wpos w) 4
   let (x, sites, q) ← assignP st f w.1 r
   pure (x, st.labels, sites, q)
/-- The instructions that are read. -/
def codeP (st : PS) : List In := if st.inn = 1 then (st.p.funcs.getLast?.map Fu.code).getD [] else st.p.main
def putCode (st : PS) (c : List In) : Pg :=
 if st.inn = 1 then { st.p with funcs := st.p.funcs.dropLast ++ (st.p.funcs.getLast?.map fun f => { f with code := c }).toList } else { st.p with main := c }
def instructP (st : PS) (w : Wd) (r : List Wd) : PE PS :=
 if w.1 = kEnd then do
  endP r
  pure { st with inn := if st.inn = 2 then 3 else 0 }
 else do
  needM (decide ((codeP st).length < 1024)) (wpos w) 5
  let (x, labels, sites, q) ← instrP st (wpos w) w r
  endP q
  pure { st with p := putCode st (codeP st ++ [{ x with pos := wpos w }]), labels := labels, sites := sites }
def declareP (st : PS) (w : Wd) (r : List Wd) : PE PS :=
 if w.1 = kWidth ∧ st.step = 0 then do
  let (n, q) ← numberP (wpos w) 64 r
  endP q
  pure { st with p := { st.p with width := (n : Int) }, step := 1 }
 else if w.1 = kChan ∧ st.step = 1 then do
  needM (decide (st.p.chans.length < 32)) (wpos w) 5
  let (s, q) ← freshP (wpos w) st.p.chans r
  endP q
  pure { st with p := { st.p with chans := st.p.chans ++ [s] } }
 else if w.1 = kArray ∧ 1 ≤ st.step ∧ st.step ≤ 2 then do
  needM (decide (st.p.arrays.length < 32)) (wpos w) 5
  let (s, q) ← freshP (wpos w) (anamesP st.p) r
  let (n, q) ← numberP (wpos w) 64 q
  endP q
  pure { st with p := { st.p with arrays := st.p.arrays ++ [⟨s, (n : Int)⟩] }, step := 2 }
 else if w.1 = kFunc ∧ 1 ≤ st.step then do
  needM (decide (st.p.funcs.length < 32)) (wpos w) 5
  let (s, q) ← freshP (wpos w) (st.p.funcs.map Fu.nm) r
  let l ← paramsP (wpos w) [] q
  pure { st with p := { st.p with funcs := st.p.funcs ++ [⟨s, l, [], wpos w⟩] }, step := 3, inn := 1, labels := [] }
 else if w.1 = kMain ∧ 1 ≤ st.step then do
  endP r
  pure { st with inn := 2, labels := [] }
 else .error (wpos w, 4)
def lineP (st : PS) : List Wd → PE PS
 | [] => .error ((0, 0), 4)
 | w :: r => if st.inn = 0 then declareP st w r else if st.inn = 3 then .error (wpos w, 4) else instructP st w r
def linesP : PS → List (List Wd) → PE PS
 | st, [] => pure st
 | st, l :: r => do
  let st ← lineP st l
  linesP st r
def pg0 : Pg := ⟨0, [], [], [], []⟩
def ps0P : PS := ⟨pg0, [], [], 0, 0⟩
end Go.Proofs.YtoofbgoeipijcaaDoor

namespace Go.Proofs.YtoofbgoeipijcaaDoor
set_option linter.unusedSimpArgs false
set_option linter.unusedVariables false
open Go.RowKit Go.Shelf

end Go.Proofs.YtoofbgoeipijcaaDoor

namespace Go.Proofs.YtoofbgoeipijcaaDoor
set_option linter.unusedSimpArgs false
set_option linter.unusedVariables false
open Go.Lib

theorem numGo_cons (c : UInt8) (r : Bs) (n : Nat) : numGo (c :: r) n = if (18446744073709551615 - (c.toNat - 48)) / 10 < n then (0, 3) else numGo r (10 * n + (c.toNat - 48)) := rfl
theorem dig_nat {d : Nat} (h : d < 10) : (UInt8.ofNat (48 + d)).toNat = 48 + d := by rw [UInt8.toNat_ofNat']; omega
theorem decDigits_all : ∀ n, (decDigits n).all digB = true := by
 intro n
 induction n using Nat.strongRecOn with
 | _ n ih =>
  rw [decDigits]
  split
  ·rename_i h
   simp [digB, dig_nat h]; omega
  ·rename_i h
   rw [List.all_append, ih (n / 10) (by omega)]
   have := dig_nat (d := n % 10) (by omega)
   simp only [List.all_cons, List.all_nil, digB, this]
   simp; omega
theorem numGo_dec : ∀ (n : Nat), n ≤ 18446744073709551615 → ∀ t, numGo (decDigits n ++ t) 0 = numGo t n := by
 intro n
 induction n using Nat.strongRecOn with
 | _ n ih =>
  intro hn t
  rw [decDigits]
  split
  ·rename_i h
   rw [List.cons_append, List.nil_append, numGo_cons, dig_nat h, if_neg (by omega)]
   congr 1; omega
  ·rename_i h
   rw [List.append_assoc, ih (n / 10) (by omega) (by omega), List.cons_append, List.nil_append, numGo_cons, dig_nat (d := n % 10) (by omega), if_neg (by omega)]
   congr 1; omega
theorem numGo_zeros : ∀ (k : Nat) (t : Bs), numGo (List.replicate k 48 ++ t) 0 = numGo t 0
 | 0, t => rfl
 | k + 1, t => by
  rw [List.replicate_succ, List.cons_append, numGo_cons]
  simpa using numGo_zeros k t
/-- A numeral, with zeros ahead. -/
def numS (k n : Nat) : Bs := List.replicate k 48 ++ decDigits n
theorem numS_len (k n : Nat) : (numS k n).length = k + nDigits n := by simp [numS, decDigits_length]
theorem numS_all (k n : Nat) : (numS k n).all digB = true := by
 unfold numS
 rw [List.all_append, decDigits_all, Bool.and_true, List.all_eq_true]
 intro c hc
 obtain rfl := List.eq_of_mem_replicate hc
 decide
theorem nDigits_pos (n : Nat) : 1 ≤ nDigits n := by rw [nDigits]; split <;> omega
theorem numR_of (s : Bs) (h : 1 ≤ s.length ∧ s.length ≤ 20) : numR s = if s.all digB = true then numGo s 0 else (0, 4) := by
 unfold numR; rw [if_neg (by omega)]
theorem numR_numS (k n : Nat) (hn : n ≤ 18446744073709551615) (hk : k + nDigits n ≤ 20) : numR (numS k n) = (n, 0) := by
 have h1 := nDigits_pos n
 rw [numR_of _ (by rw [numS_len]; omega), if_pos (numS_all k n)]
 unfold numS
 rw [numGo_zeros]
 have := numGo_dec n hn []
 rw [List.append_nil] at this
 rw [this]; rfl
end Go.Proofs.YtoofbgoeipijcaaDoor
