/-
  Reading programs: the plain model of package parse (no program in sight).
  Numbers: the program's and the reference's walks.
  Decimal numerals, with zeros ahead: the numbers that they are. No program in sight.
  Reading back the words of a well-formed program (no program in sight).
  Words made of bytes, joined by blanks, and a byte that stands in no text: where the text is refused. No program in sight.
  Where words stand: each in its line, at its column, in increasing order. No program in sight.
  A text that is written word by word, with noise between: its words, read line by line. No program in sight.
  Reading back the lines of a well-formed program (no program in sight).
-/
import Derived.Test.YtoofbgoeipijcaaDoorSPrP
import Derived.Test.YtoofbgoeipijcaaDoorSTkN
import Derived.IntWalk
import Derived.Lib.ItoaNum
import Derived.Test.YtoofbgoeipijcaaDoorSPrI
import Derived.Lib.ItoaLen
import Derived.Lib.Join
import Derived.Test.YtoofbgoeipijcaaDoorB3
import Derived.Lib.Split
import Derived.Lib.SplitLaws
namespace Go.Proofs.YtoofbgoeipijcaaDoor
set_option linter.unusedSimpArgs false
set_option linter.unusedVariables false
open Go.RowKit Go.Shelf

def kEnd : Bs := [101, 110, 100]
def kMain : Bs := [109, 97, 105, 110]
def kFunc : Bs := [102, 117, 110, 99]
def kChan : Bs := [99, 104, 97, 110]
def kArray : Bs := [97, 114, 114, 97, 121]
def kWidth : Bs := [119, 105, 100, 116, 104]
end Go.Proofs.YtoofbgoeipijcaaDoor

namespace Go.Proofs.YtoofbgoeipijcaaDoor
set_option linter.unusedSimpArgs false
set_option linter.unusedVariables false
open Go.RowKit Go.Shelf

end Go.Proofs.YtoofbgoeipijcaaDoor

namespace Go.Proofs.YtoofbgoeipijcaaDoor
set_option linter.unusedSimpArgs false
set_option linter.unusedVariables false
open Go.Lib

theorem dig_nat {d : Nat} (h : d < 10) : (UInt8.ofNat (48 + d)).toNat = 48 + d := by rw [UInt8.toNat_ofNat']; omega
theorem decDigits_all : ∀ n, (decDigits n).all digB = true := by
  intro n
  induction n using Nat.strongRecOn with
  | _ n ih =>
    rw [decDigits]
    split
    · rename_i h
      simp [digB, dig_nat h]; omega
    · rename_i h
      rw [List.all_append, ih (n / 10) (by omega)]
      have := dig_nat (d := n % 10) (by omega)
      simp only [List.all_cons, List.all_nil, digB, this]
      simp; omega
theorem nDigits_pos (n : Nat) : 1 ≤ nDigits n := by rw [nDigits]; split <;> omega
end Go.Proofs.YtoofbgoeipijcaaDoor

namespace Go.Proofs.YtoofbgoeipijcaaDoor
set_option linter.unusedSimpArgs false
set_option linter.unusedVariables false
open Go.RowKit Go.Shelf

/-! ### names, numerals -/
theorem named_spec {s : Bs} (h : namedB s = true) : s ≠ [] ∧ s.length ≤ 32 ∧ (∀ c ∈ s, namB c = true) ∧ digB (s.headD 0) = false ∧ opB s = false ∧ kwB s = false := by
  unfold namedB nameB at h
  simp only [Bool.and_eq_true, Bool.not_eq_true', decide_eq_true_eq, List.all_eq_true] at h
  obtain ⟨⟨⟨⟨⟨h1, h2⟩, h3⟩, h4⟩, h5⟩, h6⟩ := h
  exact ⟨by rintro rfl; simp at h1, h2, h4, h3, h5, h6⟩
theorem namB_bd {c : UInt8} (h : namB c = true) : (48 ≤ c.toNat ∧ c.toNat ≤ 57) ∨ c.toNat = 95 ∨ (97 ≤ c.toNat ∧ c.toNat ≤ 122) ∨ (65 ≤ c.toNat ∧ c.toNat ≤ 90) := by
  simp [namB, digB] at h; omega
theorem dec_head (n : Nat) : digB ((Lib.decDigits n).headD 0) = true ∧ Lib.decDigits n ≠ [] := by
  have h1 := decDigits_all n
  have h2 : 1 ≤ (Lib.decDigits n).length := by rw [Lib.decDigits_length]; exact nDigits_pos n
  cases e : Lib.decDigits n with
  | nil => rw [e] at h2; simp at h2
  | cons a r => rw [e] at h1; simp at h1; exact ⟨h1.1, by simp⟩
/-! ### operands -/
def NumA (a : Ag) : Prop := a.num ≤ 18446744073709551615
/-! ### an instruction -/
def wlI (x : In) : List Bs := if x.kind = 10 then [x.nm ++ [58]] else wordsM x
def NumI (x : In) : Prop := ∀ a ∈ x.args, NumA a
end Go.Proofs.YtoofbgoeipijcaaDoor

namespace Go.Proofs.YtoofbgoeipijcaaDoor
set_option linter.unusedSimpArgs false
set_option linter.unusedVariables false

end Go.Proofs.YtoofbgoeipijcaaDoor

namespace Go.Proofs.YtoofbgoeipijcaaDoor
set_option linter.unusedSimpArgs false
set_option linter.unusedVariables false

/-- A word of line n stands in the line where its column says. -/
def OkW (n : Nat) (line : Bs) (x : Wd) : Prop := x.2.1 = n ∧ 1 ≤ x.2.2 ∧ x.1 <+: line.drop (x.2.2 - 1)
structure LtI (n : Nat) (line pre : Bs) (cur : Option (Bs × Nat)) (acc : List Wd) : Prop where
  ok : ∀ x ∈ acc, OkW n line x
  inc : acc.Pairwise (fun a b => a.2.2 < b.2.2)
  le : ∀ x ∈ acc, x.2.2 ≤ pre.length
  cur : ∀ u c, cur = some (u, c) → 1 ≤ c ∧ c ≤ pre.length ∧ pre.drop (c - 1) = u ∧ ∀ x ∈ acc, x.2.2 < c
theorem LtI.grow {n : Nat} {line pre : Bs} {cur : Option (Bs × Nat)} {acc : List Wd} {c : UInt8} (h : LtI n line pre cur acc) : LtI n line (pre ++ [c]) (grow c pre.length cur) acc := by
  refine ⟨h.ok, h.inc, fun x hx => by have := h.le x hx; simp; omega, ?_⟩
  cases cur with
  | none =>
    intro u k e
    simp only [Go.Proofs.YtoofbgoeipijcaaDoor.grow, Option.some.injEq, Prod.mk.injEq] at e
    obtain ⟨rfl, rfl⟩ := e
    exact ⟨by omega, by simp, by simp, fun x hx => by have := h.le x hx; omega⟩
  | some q =>
    obtain ⟨t, k⟩ := q
    intro u k' e
    simp only [Go.Proofs.YtoofbgoeipijcaaDoor.grow, Option.some.injEq, Prod.mk.injEq] at e
    obtain ⟨rfl, rfl⟩ := e
    obtain ⟨h1, h2, h3, h4⟩ := h.cur t k rfl
    exact ⟨h1, by simp; omega, by rw [List.drop_append_of_le_length (by omega), h3], h4⟩
/-- A row of words, at its place among the lines from line n on. -/
structure RowOk (rows : List Bs) (n : Nat) (ws : List Wd) : Prop where
  ne : ws ≠ []
  at' : ∃ j, ∃ h : j < rows.length, ∀ x ∈ ws, OkW (n + j) rows[j] x
  inc : ws.Pairwise (fun a b => a.2.2 < b.2.2)
theorem RowOk.line {rows : List Bs} {n : Nat} {ws : List Wd} (h : RowOk rows n ws) : ∃ L, n ≤ L ∧ ∀ x ∈ ws, x.2.1 = L := by
  obtain ⟨_, ⟨j, _, h2⟩, _⟩ := h
  exact ⟨n + j, by omega, fun x hx => (h2 x hx).1⟩
end Go.Proofs.YtoofbgoeipijcaaDoor

namespace Go.Proofs.YtoofbgoeipijcaaDoor
set_option linter.unusedSimpArgs false
set_option linter.unusedVariables false

/-- The bytes of a word. -/
def plB (c : UInt8) : Bool := decide (33 ≤ c.toNat) && decide (c.toNat ≤ 126) && decide (c.toNat ≠ 35)
theorem plB_bd {c : UInt8} (h : plB c = true) : 33 ≤ c.toNat ∧ c.toNat ≤ 126 ∧ c.toNat ≠ 35 := by
  simp [plB] at h; omega
theorem plB_spec {c : UInt8} (h : plB c = true) : badB c = false ∧ sepB c = false ∧ c ≠ 35 ∧ c ≠ 10 := by
  have := plB_bd h
  refine ⟨?_, ?_, ?_, ?_⟩
  · simp only [badB, Bool.or_eq_false_iff, decide_eq_false_iff_not, UInt8.lt_iff_toNat_lt]
    refine ⟨?_, ?_⟩
    · show ¬ c.toNat < 32; omega
    · show ¬ 126 < c.toNat; omega
  · have h32 : c ≠ 32 := by rintro rfl; simp at this
    have h9 : c ≠ 9 := by rintro rfl; simp at this
    simp [sepB, h32, h9]
  · rintro rfl; simp at this
  · rintro rfl; simp at this

end Go.Proofs.YtoofbgoeipijcaaDoor

namespace Go.Proofs.YtoofbgoeipijcaaDoor
set_option linter.unusedSimpArgs false
set_option linter.unusedVariables false
open Go.RowKit Go.Shelf

/-- The words of a program, line by line. -/
def bodyW (l : List In) : List (List Bs) := l.map wlI ++ [[kEnd]]
def funcW (f : Fu) : List (List Bs) := (kFunc :: f.nm :: f.params) :: bodyW f.code
def linesW (p : Pg) : List (List Bs) :=
  [kWidth, Lib.itoa p.width] :: (p.chans.map fun c => [kChan, c]) ++ (p.arrays.map fun a => [kArray, a.nm, Lib.itoa a.size]) ++ p.funcs.flatMap funcW ++ [kMain] :: bodyW p.main
structure NumP (p : Pg) : Prop where
  funcs : ∀ f ∈ p.funcs, ∀ x ∈ f.code, NumI x
  main : ∀ x ∈ p.main, NumI x

/-! ### functions -/
/-! ### declarations -/
/-- What a well-formed program is made of. -/
structure Parts (p : Pg) (ls : List (List Bs)) (s1 ml s2 : List Bs) : Prop where
  width : 1 ≤ p.width ∧ p.width ≤ 64
  nch : p.chans.length ≤ 32
  ch : declM (0, 0) [] p.chans = none
  nar : p.arrays.length ≤ 32
  ar : arrsM [] p.arrays = none
  nfs : p.funcs.length ≤ 32
  fs : funcsM p.chans (p.arrays.map Ar.nm) [] [] [] p.funcs = .ok (ls, s1)
  nmain : p.main.length ≤ 1024
  main : bodyM p.chans (p.arrays.map Ar.nm) true p.main [] s1 = .ok (ml, s2)
theorem check_parts (p : Pg) (h : (checkM p).2 = 0) : ∃ ls s1 ml s2, Parts p ls s1 ml s2 := by
  unfold checkM at h
  by_cases c1 : p.width < 1 ∨ 64 < p.width
  · rw [if_pos c1] at h; cases h
  rw [if_neg c1] at h
  by_cases c2 : 32 < p.chans.length
  · rw [if_pos c2] at h; cases h
  rw [if_neg c2] at h
  cases hch : declM (0, 0) [] p.chans with
  | some f =>
    rw [hch] at h
    simp only at h
    exfalso
    have : ∀ (l seen : List Bs) (f : Flt), declM (0, 0) seen l = some f → f.2 ≠ 0 := by
      intro l
      induction l with
      | nil => intro seen f h; cases h
      | cons a r ih =>
        intro seen f h
        unfold declM at h
        split at h
        · cases h; simp
        · split at h
          · cases h; simp
          · exact ih _ _ h
    exact this _ _ _ hch h
  | none =>
  rw [hch] at h
  simp only at h
  by_cases c3 : 32 < p.arrays.length
  · rw [if_pos c3] at h; cases h
  rw [if_neg c3] at h
  cases har : arrsM [] p.arrays with
  | some f =>
    rw [har] at h
    simp only at h
    exfalso
    have : ∀ (l : List Ar) (seen : List Bs) (f : Flt), arrsM seen l = some f → f.2 ≠ 0 := by
      intro l
      induction l with
      | nil => intro seen f h; cases h
      | cons a r ih =>
        intro seen f h
        unfold arrsM at h
        split at h
        · cases h; simp
        · split at h
          · cases h; simp
          · split at h
            · cases h; simp
            · exact ih _ _ h
    exact this _ _ _ har h
  | none =>
  rw [har] at h
  simp only at h
  by_cases c4 : 32 < p.funcs.length
  · rw [if_pos c4] at h; cases h
  rw [if_neg c4] at h
  have hstep0 : ∀ (ch ar : List Bs) (m : Bool) (l s : List Bs) (x : In) (f : Flt), stepM ch ar m l s x = .error f → f.2 ≠ 0 := by
    intro ch ar m l s x f h
    unfold stepM at h
    split at h
    · cases h; simp
    · split at h
      · split at h
        · cases h
        · cases h; simp
      · split at h
        · split at h
          · cases h
          · cases h; simp
        · split at h
          · split at h
            · cases h; simp
            · cases h
          · split at h
            · split at h
              · cases h
              · split at h
                · cases h
                · cases h; simp
            · cases h
  have hbody0 : ∀ (ch ar : List Bs) (m : Bool) (code : List In) (l s : List Bs) (f : Flt), bodyM ch ar m code l s = .error f → f.2 ≠ 0 := by
    intro ch ar m code
    induction code with
    | nil => intro l s f h; cases h
    | cons x r ih =>
      intro l s f h
      unfold bodyM at h
      cases e : stepM ch ar m l s x with
      | error g => rw [e] at h; simp only at h; cases h; exact hstep0 _ _ _ _ _ _ _ e
      | ok q => rw [e] at h; exact ih _ _ _ h
  have hins0 : ∀ (ch ar : List Bs) (m : Bool) (q : Int × Int) (code : List In) (s : List Bs) (f : Flt), instrsM ch ar m q code s = .error f → f.2 ≠ 0 := by
    intro ch ar m q code s f h
    unfold instrsM at h
    split at h
    · cases h; simp
    · exact hbody0 _ _ _ _ _ _ _ h
  have hfun0 : ∀ (ch ar : List Bs) (l : List Fu) (seen : List Bs) (ls : List (List Bs)) (s : List Bs) (f : Flt), funcsM ch ar seen ls s l = .error f → f.2 ≠ 0 := by
    intro ch ar l
    induction l with
    | nil => intro seen ls s f h; cases h
    | cons g r ih =>
      intro seen ls s f h
      unfold funcsM at h
      split at h
      · cases h; simp
      · split at h
        · cases h; simp
        · split at h
          · cases h; simp
          · split at h
            · rename_i x e
              cases h
              have : ∀ (l seen : List Bs) (q : Int × Int) (f : Flt), declM q seen l = some f → f.2 ≠ 0 := by
                intro l
                induction l with
                | nil => intro seen q f h; cases h
                | cons a r ih =>
                  intro seen q f h
                  unfold declM at h
                  split at h
                  · cases h; simp
                  · split at h
                    · cases h; simp
                    · exact ih _ _ _ h
              exact this _ _ _ _ e
            · split at h
              · rename_i e; cases h; exact hins0 _ _ _ _ _ _ _ e
              · exact ih _ _ _ _ h
  cases hf : funcsM p.chans (p.arrays.map Ar.nm) [] [] [] p.funcs with
  | error f => rw [hf] at h; exact absurd h (hfun0 _ _ _ _ _ _ _ hf)
  | ok q =>
  obtain ⟨ls, s1⟩ := q
  rw [hf] at h
  simp only at h
  cases hm : instrsM p.chans (p.arrays.map Ar.nm) true (0, 0) p.main s1 with
  | error f => rw [hm] at h; exact absurd h (hins0 _ _ _ _ _ _ _ hm)
  | ok q =>
  obtain ⟨ml, s2⟩ := q
  clear h
  unfold instrsM at hm
  by_cases c5 : 1024 < p.main.length
  · rw [if_pos c5] at hm; cases hm
  rw [if_neg c5] at hm
  exact ⟨ls, s1, ml, s2, ⟨by omega, by omega⟩, by omega, hch, by omega, har, by omega, hf, by omega, hm⟩

end Go.Proofs.YtoofbgoeipijcaaDoor
