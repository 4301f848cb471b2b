/-
  Verdicts and their lines, plainly. No program in sight.
-/
import Derived.Test.YtehjfmbnebeioaaDoorLib
import Derived.Lib.ItoaNum
import Derived.Lib.Join
namespace Go.Proofs.YtehjfmbnebeioaaDoor
set_option linter.unusedSimpArgs false
set_option linter.unusedVariables false
open Go.Lib

/-- A verdict. -/
structure Vd where
  kind : Nat
  reason : Nat
  level : Int
  A : List (List Nat)
  B : List (List Nat)
  imp : Bool
  pol : Bool
  line : Int
  col : Int
  err : Int
deriving DecidableEq

def wSecure : List UInt8 := [83, 69, 67, 85, 82, 69]
def wLeak : List UInt8 := [76, 69, 65, 75]
def wInc : List UInt8 := [73, 78, 67, 79, 78, 67, 76, 85, 83, 73, 86, 69]
def wReject : List UInt8 := [82, 69, 74, 69, 67, 84]
def wReason : Nat → List UInt8 | 1 => [112, 97, 116, 104, 115] | 2 => [110, 111, 100, 101, 115] | 3 => [99, 111, 110, 102, 108, 105, 99, 116, 115] | 4 => [102, 117, 101, 108] | _ => []
def wErr : Nat → List UInt8 | 1 => [110, 105, 108] | 2 => [97, 114, 103] | 3 => [114, 97, 110, 103, 101] | 4 => [102, 111, 114, 109] | 5 => [108, 111, 110, 103] | 6 => [110, 111, 110, 101] | 7 => [115, 116, 97, 116, 101] | 8 => [116, 119, 105, 99, 101] | 9 => [108, 111, 111, 112] | 10 => [98, 117, 100, 103, 101, 116] | _ => []
def wKind : Nat → List UInt8 | 0 => wSecure | 1 => wLeak | 2 => wInc | 3 => wReject | _ => []
/-- The word of a kind and a reason, and the error. -/
def wordR (kind reason : Nat) : List UInt8 × Int :=
  if 3 < kind then ([], 3) else if kind ≠ 2 ∧ reason ≠ 0 then ([], 2) else if kind ≠ 2 then (wKind kind, 0) else if reason < 1 ∨ 4 < reason then ([], 3) else (wInc ++ 32 :: wReason reason, 0)
def bareR (v : Vd) : Bool :=
  !(decide (v.kind ≠ 2) && decide (v.reason ≠ 0)) && !(decide (v.kind ≠ 1) && (decide (v.level ≠ 0) || decide (0 < v.A.length) || decide (0 < v.B.length) || v.imp)) && (decide (v.kind = 3) || (!v.pol && (decide (v.line = 0) && decide (v.col = 0)) && decide (v.err = 0)))
def wFirst : List UInt8 := [102, 105, 114, 115, 116]
def wSecond : List UInt8 := [115, 101, 99, 111, 110, 100]
def wHow (b : Bool) : List UInt8 := if b then [105, 109, 112, 108, 105, 99, 105, 116] else [101, 120, 112, 108, 105, 99, 105, 116]
def rowR (word name : List UInt8) (l : List Nat) : List UInt8 := word ++ 32 :: name ++ l.flatMap (fun n => 32 :: decDigits n)
def atL (l : List (List Nat)) (i : Nat) : List Nat := l.getD i []
/-- The lines of the channels from the first k on. -/
def chanR (v : Vd) (chans : List (List UInt8)) (k : Nat) : List (List UInt8) := (List.range k).flatMap fun i => [rowR wFirst (chans.getD i []) (atL v.A i), rowR wSecond (chans.getD i []) (atL v.B i)]
def leakR (v : Vd) (levels chans : List (List UInt8)) : List (List UInt8) × Int :=
  if v.level < 0 ∨ (levels.length : Int) ≤ v.level then ([], 3)
  else if chans.length < v.A.length ∨ chans.length < v.B.length then ([], 5)
  else ((wLeak ++ ([32, 97, 116, 32] : List UInt8) ++ levels.getD v.level.toNat [] ++ ([32] : List UInt8) ++ wHow v.imp) :: chanR v chans chans.length, 0)
def rejectR (v : Vd) : List (List UInt8) × Int :=
  if v.err < 1 ∨ 10 < v.err then ([], 3)
  else ([wReject ++ (if v.pol then ([32, 112, 111, 108, 105, 99, 121, 32] : List UInt8) else [32, 112, 114, 111, 103, 114, 97, 109, 32]) ++ itoa v.line ++ ([32] : List UInt8) ++ itoa v.col ++ ([32] : List UInt8) ++ wErr v.err.toNat], 0)
def plainR (v : Vd) : List (List UInt8) × Int := if (wordR v.kind v.reason).2 = 0 then ([(wordR v.kind v.reason).1], 0) else ([], (wordR v.kind v.reason).2)
/-- The lines of a verdict, and the error. -/
def vlinesR (v : Vd) (levels chans : List (List UInt8)) : List (List UInt8) × Int :=
  if 3 < v.kind then ([], 3) else if bareR v = false then ([], 2) else if v.kind = 1 then leakR v levels chans else if v.kind = 3 then rejectR v else plainR v
end Go.Proofs.YtehjfmbnebeioaaDoor
