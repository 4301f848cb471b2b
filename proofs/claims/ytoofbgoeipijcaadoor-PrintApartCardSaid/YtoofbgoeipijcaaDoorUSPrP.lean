/-
 Programs: the plain model of what package prog checks (no program in sight).
-/
import Derived.Test.YtoofbgoeipijcaaDoorUB3
namespace Go.Proofs.YtoofbgoeipijcaaDoor
set_option linter.unusedSimpArgs false
set_option linter.unusedVariables false
open Go.RowKit Go.Shelf

structure Ag where
 nm : Bs
 num : Nat
deriving DecidableEq
structure In where
 kind : Nat
 op : Nat
 dst : Bs
 nm : Bs
 args : List Ag
 pos : Int × Int
deriving DecidableEq
structure Ar where
 nm : Bs
 size : Int
deriving DecidableEq
structure Fu where
 nm : Bs
 params : List Bs
 code : List In
 pos : Int × Int
deriving DecidableEq
structure Pg where
 width : Int
 chans : List Bs
 arrays : List Ar
 funcs : List Fu
 main : List In
deriving DecidableEq
instance : Inhabited In := ⟨⟨0, 0, [], [], [], (0, 0)⟩⟩
instance : Inhabited Fu := ⟨⟨[], [], [], (0, 0)⟩⟩

/-- The names of the operators from 2 on. -/
def opL : List Bs := [[110, 111, 116], [110, 101, 103], [97, 100, 100], [115, 117, 98], [109, 117, 108], [100, 105, 118], [114, 101, 109], [97, 110, 100], [111, 114], [120, 111, 114],
 [115, 104, 108], [115, 104, 114], [115, 97, 114], [101, 113], [110, 101], [108, 116], [108, 101], [115, 108, 116], [115, 108, 101], [105, 116, 101]]
/-- The keywords. -/
def kwL : List Bs := [[119, 105, 100, 116, 104], [99, 104, 97, 110], [97, 114, 114, 97, 121], [102, 117, 110, 99], [109, 97, 105, 110], [101, 110, 100], [108, 111, 97, 100], [115, 116, 111, 114, 101],
 [99, 97, 108, 108], [105, 110], [111, 117, 116], [114, 101, 108, 101, 97, 115, 101], [106, 117, 109, 112], [105, 102], [104, 97, 108, 116], [114, 101, 116]]
def opB (s : Bs) : Bool := opL.contains s
def kwB (s : Bs) : Bool := kwL.contains s
def namedB (s : Bs) : Bool := nameB s && !opB s && !kwB s
def arityM (o : Nat) : Nat := if o ≤ 1 then 0 else if o ≤ 3 then 1 else if o = 21 then 3 else 2
/-- Which fields a kind has: destination, name, number of arguments (-1: any). -/
def fieldsL : List (Bool × Bool × Int) := [(true, false, 1), (true, false, 0), (true, true, 1), (false, true, 2), (true, true, -1), (true, true, 0), (false, true, 1), (true, true, 1), (false, true, 0),
 (false, true, 1), (false, true, 0), (false, false, 0), (false, false, 1)]
def argB (a : Ag) : Bool := decide (a.nm = []) || (namedB a.nm && decide (a.num = 0))
/-- How many arguments an instruction wants. -/
def wantM (x : In) : Int := if x.kind = 1 then (arityM x.op : Int) else (fieldsL.getD x.kind (false, false, 0)).2.2
def fieldB (f : Bool) (s : Bs) : Bool := if f then namedB s else decide (s = [])
def opOkB (x : In) : Bool := if x.kind = 1 then decide (2 ≤ x.op) && decide (x.op ≤ 20) else decide (x.op = 0)
def formB (x : In) : Bool := decide (x.kind < 13) && opOkB x && fieldB (fieldsL.getD x.kind (false, false, 0)).1 x.dst && fieldB (fieldsL.getD x.kind (false, false, 0)).2.1 x.nm
 && (decide (wantM x < 0) || decide ((x.args.length : Int) = wantM x)) && decide (x.args.length ≤ 32) && x.args.all argB

abbrev Flt := (Int × Int) × Int
/-- Names that are declared one behind the other. -/
def declM (pos : Int × Int) : List Bs → List Bs → Option Flt
 | _, [] => none
 | seen, s :: r => if namedB s = false then some (pos, 4) else if seen.contains s then some (pos, 8) else declM pos (seen ++ [s]) r
def arrsM : List Bs → List Ar → Option Flt
 | _, [] => none
 | seen, a :: r => if namedB a.nm = false then some ((0, 0), 4) else if seen.contains a.nm then some ((0, 0), 8) else if a.size < 1 ∨ 64 < a.size then some ((0, 0), 3) else arrsM (seen ++ [a.nm]) r
/-- One instruction by itself: the labels and the sites behind it. -/
def stepM (chans arrays : List Bs) (main : Bool) (labels sites : List Bs) (x : In) : Except Flt (List Bs × List Bs) :=
 if (formB x && !(main && decide (x.kind = 12))) = false then .error (x.pos, 4)
 else if x.kind = 5 ∨ x.kind = 6 then (if chans.contains x.nm then .ok (labels, sites) else .error (x.pos, 6))
 else if x.kind = 2 ∨ x.kind = 3 then (if arrays.contains x.nm then .ok (labels, sites) else .error (x.pos, 6))
 else if x.kind = 10 then (if labels.contains x.nm then .error (x.pos, 8) else .ok (labels ++ [x.nm], sites))
 else if x.kind = 7 then (if sites.contains x.nm then .ok (labels, sites) else if sites.length < 32 then .ok (labels, sites ++ [x.nm]) else .error (x.pos, 5))
 else .ok (labels, sites)
def bodyM (chans arrays : List Bs) (main : Bool) : List In → List Bs → List Bs → Except Flt (List Bs × List Bs)
 | [], labels, sites => .ok (labels, sites)
 | x :: r, labels, sites => match stepM chans arrays main labels sites x with
  | .error f => .error f
  | .ok (l, s) => bodyM chans arrays main r l s
def instrsM (chans arrays : List Bs) (main : Bool) (pos : Int × Int) (code : List In) (sites : List Bs) : Except Flt (List Bs × List Bs) :=
 if 1024 < code.length then .error (pos, 5) else bodyM chans arrays main code [] sites
/-- The functions: names, parameters and instructions; the labels of each and the sites behind them. -/
def funcsM (chans arrays : List Bs) : List Bs → List (List Bs) → List Bs → List Fu → Except Flt (List (List Bs) × List Bs)
 | _, labels, sites, [] => .ok (labels, sites)
 | seen, labels, sites, f :: r =>
  if namedB f.nm = false then .error (f.pos, 4) else if seen.contains f.nm then .error (f.pos, 8) else
  if 32 < f.params.length then .error (f.pos, 5) else
  match declM f.pos [] f.params with
  | some x => .error x
  | none => match instrsM chans arrays false f.pos f.code sites with
   | .error x => .error x
   | .ok (l, s) => funcsM chans arrays (seen ++ [f.nm]) (labels ++ [l]) s r
def paramsOf (p : Pg) (s : Bs) : Option Nat := (p.funcs.find? fun f => decide (f.nm = s)).map fun f => f.params.length
/-- What an instruction refers to. -/
def targetM (p : Pg) (labels : List Bs) (x : In) : Option Flt :=
 if x.kind = 8 ∨ x.kind = 9 then (if labels.contains x.nm then none else some (x.pos, 6))
 else if x.kind = 4 then (match paramsOf p x.nm with
  | none => some (x.pos, 6)
  | some n => if n = x.args.length then none else some (x.pos, 4))
 else none
def targetsM (p : Pg) (labels : List Bs) : List In → Option Flt
 | [] => none
 | x :: r => match targetM p labels x with
  | some f => some f
  | none => targetsM p labels r
def callsM (code : List In) : List Bs := (code.filter fun x => decide (x.kind = 4)).map In.nm
def codeOf (p : Pg) (s : Bs) : List In := ((p.funcs.find? fun f => decide (f.nm = s)).map Fu.code).getD []
/-- The callees of one function: those that are new are kept; true: the name itself is among them. -/
def pushM (name : Bs) : List Bs → List Bs → List Bs → Bool × List Bs × List Bs
 | [], seen, todo => (false, seen, todo)
 | g :: r, seen, todo => if g = name then (true, seen, todo) else if seen.contains g then pushM name r seen todo else pushM name r (seen ++ [g]) (todo ++ [g])
def loopsM (p : Pg) (name : Bs) : Nat → List Bs → List Bs → Bool
 | 0, _, _ => false
 | k + 1, seen, todo => if todo = [] then false else
  let r := pushM name (callsM (codeOf p (todo.getLastD []))) seen todo.dropLast
  if r.1 then true else loopsM p name k r.2.1 r.2.2
def loopB (p : Pg) (name : Bs) : Bool := loopsM p name (2 * p.funcs.length + 3) [] [name]
def loopsAllM (p : Pg) : List Fu → Option Flt
 | [] => none
 | f :: r => if loopB p f.nm then some (f.pos, 9) else loopsAllM p r
def laterM (p : Pg) : List (List Bs) → List Fu → Option Flt
 | _, [] => none
 | ls, f :: r => match targetsM p (ls.headD []) f.code with
  | some x => some x
  | none => laterM p ls.tail r
def checkM (p : Pg) : Flt :=
 if p.width < 1 ∨ 64 < p.width then ((0, 0), 3) else
 if 32 < p.chans.length then ((0, 0), 5) else
 match declM (0, 0) [] p.chans with
 | some f => f
 | none =>
 if 32 < p.arrays.length then ((0, 0), 5) else
 match arrsM [] p.arrays with
 | some f => f
 | none =>
 if 32 < p.funcs.length then ((0, 0), 5) else
 match funcsM p.chans (p.arrays.map Ar.nm) [] [] [] p.funcs with
 | .error f => f
 | .ok (labels, sites) =>
 match instrsM p.chans (p.arrays.map Ar.nm) true (0, 0) p.main sites with
 | .error f => f
 | .ok (ml, _) =>
 match laterM p labels p.funcs with
 | some f => f
 | none =>
 match targetsM p ml p.main with
 | some f => f
 | none =>
 match loopsAllM p p.funcs with
 | some f => f
 | none => ((0, 0), 0)

end Go.Proofs.YtoofbgoeipijcaaDoor
