/-
  Plain: formulas and gates as the program writes them. No program in sight.
-/
import Derived.WalkKit
namespace Go.Proofs.YtjcnhnifageikaaDoor
set_option linter.unusedSimpArgs false
set_option linter.unusedVariables false

/-- A formula: how many variables, and the clauses. -/
structure Form where
  vars : Nat
  cls : List (List Int)

def okLit (n x : Int) : Bool := !(x == 0 || decide (n < x) || decide (x < -n))
def hasAll (n : Int) (l : List Int) : Bool := l.all (okLit n)
def Form.ok (F : Form) (x : Int) : Bool := okLit F.vars x

theorem hasAll_no (n : Int) (zs : List Int) (k : Nat) (hk : k < zs.length) (h : okLit n zs[k] = false) : hasAll n zs = false := by
  unfold hasAll
  rw [List.all_eq_false]
  exact ⟨zs[k], List.getElem_mem hk, by simp [h]⟩
theorem hasAll_step (n : Int) (zs : List Int) (k : Nat) (hk : k < zs.length) (h0 : hasAll n (zs.take k) = true) (h : okLit n zs[k] = true) : hasAll n (zs.take (k+1)) = true := by
  unfold hasAll at *
  rw [List.take_succ_eq_append_getElem hk, List.all_append, h0]; simp [h]

/-- The clauses of the gates: and, xor, mux. -/
def gateTbl : Nat → List (List Int)
  | 0 => [[-1, 2], [-1, 3], [1, -2, -3]]
  | 1 => [[-1, 2, 3], [-1, -2, -3], [1, -2, 3], [1, 2, -3]]
  | _ => [[-2, -3, 1], [-2, 3, -1], [2, -4, 1], [2, 4, -1], [-3, -4, 1], [3, 4, -1]]

/-- A place of a clause, taken out of a list. -/
def place (at_ : List Int) (p : Int) : Int := if p < 0 then -(at_.getD (-p).toNat 0) else at_.getD p.toNat 0
def inst (at_ : List Int) (row : List Int) : List Int := row.map (place at_)

/-- What a gate function returns: a literal, an error, the formula. -/
abbrev Out := Int × Int × Form

def writeM (F : Form) (kind : Nat) (args : List Int) : Out :=
  if F.vars = 1048576 ∨ 1048576 < F.cls.length + (gateTbl kind).length then (0, 5, F)
  else ((F.vars : Int) + 1, 0, ⟨F.vars + 1, F.cls ++ (gateTbl kind).map (inst (0 :: ((F.vars : Int) + 1) :: args))⟩)

def andM (F : Form) (x y : Int) : Out :=
  if !hasAll F.vars [x, y] then (0, 3, F)
  else if x = y ∨ y = 1 then (x, 0, F)
  else if x = 1 then (y, 0, F)
  else if x = -y ∨ x = -1 ∨ y = -1 then (-1, 0, F)
  else writeM F 0 [x, y]

def orM (F : Form) (x y : Int) : Out := let r := andM F (-x) (-y); (-r.1, r.2.1, r.2.2)

def xorM (F : Form) (x y : Int) : Out :=
  if !hasAll F.vars [x, y] then (0, 3, F)
  else if x = y then (-1, 0, F)
  else if x = -y then (1, 0, F)
  else if x = 1 then (-y, 0, F)
  else if x = -1 then (y, 0, F)
  else if y = 1 then (-x, 0, F)
  else if y = -1 then (x, 0, F)
  else writeM F 1 [x, y]

def muxM (F : Form) (c x y : Int) : Out :=
  if !hasAll F.vars [c, x, y] then (0, 3, F)
  else if c = 1 ∨ x = y then (x, 0, F)
  else if c = -1 then (y, 0, F)
  else writeM F 2 [c, x, y]

def freshM (F : Form) : Out := if F.vars = 1048576 then (0, 5, F) else ((F.vars : Int) + 1, 0, ⟨F.vars + 1, F.cls⟩)

end Go.Proofs.YtjcnhnifageikaaDoor
