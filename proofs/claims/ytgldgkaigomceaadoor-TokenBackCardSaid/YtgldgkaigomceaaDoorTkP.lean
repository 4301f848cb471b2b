/-
  Words of a text, plainly: the program's way (line by line) and the reference's (byte by byte) give the same. No program in sight.
-/
namespace Go.Proofs.YtgldgkaigomceaaDoor
set_option linter.unusedSimpArgs false
set_option linter.unusedVariables false

abbrev Bs := List UInt8
/-- A word: its bytes, its line and its column. -/
abbrev Wd := Bs × Nat × Nat

def flushW (n : Nat) (cur : Option (Bs × Nat)) (acc : List Wd) : List Wd :=
  match cur with
  | none => acc
  | some (t, c) => acc ++ [(t, n, c)]
def grow (c : UInt8) (i : Nat) (cur : Option (Bs × Nat)) : Option (Bs × Nat) :=
  match cur with
  | none => some ([c], i + 1)
  | some (t, k) => some (t ++ [c], k)
/-- Does a byte stand in no text. -/
def badB (c : UInt8) : Bool := decide (c < 32) || decide (126 < c)
def sepB (c : UInt8) : Bool := c == 32 || c == 9

/-- The words of a line, from its byte i on; an error tells the byte. -/
def lt (n : Nat) : Bs → Nat → Option (Bs × Nat) → List Wd → Except Nat (List Wd)
  | [], _, cur, acc => .ok (flushW n cur acc)
  | c :: r, i, cur, acc =>
    if c = 35 then .ok (flushW n cur acc)
    else if sepB c = true then lt n r (i + 1) none (flushW n cur acc)
    else if badB c = true then .error i
    else lt n r (i + 1) (grow c i cur) acc

def addL (out : List (List Wd)) (ws : List Wd) : List (List Wd) := if ws = [] then out else out ++ [ws]

/-- The lines of a text. -/
def cutNL : Bs → Bs × Bs × Bool
  | [] => ([], [], false)
  | c :: r => if c = 10 then ([], r, true) else (c :: (cutNL r).1, (cutNL r).2.1, (cutNL r).2.2)
theorem cutNL_len : ∀ s : Bs, (cutNL s).2.2 = true → (cutNL s).2.1.length < s.length
  | [], h => by simp [cutNL] at h
  | c :: r, h => by
    unfold cutNL at h ⊢
    split
    · simp
    · rename_i hc
      rw [if_neg hc] at h
      have := cutNL_len r h
      simp only [List.length_cons]; omega

/-- The lines of words of a text, from its line n on. -/
def ls (n : Nat) (s : Bs) (out : List (List Wd)) : Except (Nat × Nat) (List (List Wd)) :=
  match lt n (cutNL s).1 0 none [] with
  | .error i => .error (n, i + 1)
  | .ok ws => if h : (cutNL s).2.2 = true then ls (n + 1) (cutNL s).2.1 (addL out ws) else .ok (addL out ws)
termination_by s.length
decreasing_by exact cutNL_len s h

def tok (s : Bs) : Except (Nat × Nat) (List (List Wd)) := ls 1 s []

/-! ### the reference's way -/
/-- The last word of a line gets one byte more. -/
def tail1 (c : UInt8) : List Wd → List Wd
  | [] => []
  | [(t, p)] => [(t ++ [c], p)]
  | x :: y :: r => x :: tail1 c (y :: r)

def rt : Bs → Nat → Nat → List (List Wd) → List Wd → Bool → Bool → Except (Nat × Nat) (List (List Wd))
  | [], _, _, out, line, _, _ => .ok (addL out line)
  | c :: r, L, C, out, line, com, wd =>
    if c = 10 then rt r (L + 1) 1 (addL out line) [] false false
    else if com = true then rt r L (C + 1) out line com wd
    else if c = 35 then rt r L (C + 1) out line true wd
    else if sepB c = true then rt r L (C + 1) out line com false
    else if badB c = true then .error (L, C)
    else if wd = true then rt r L (C + 1) out (tail1 c line) com wd
    else rt r L (C + 1) out (line ++ [(([c] : Bs), L, C)]) com true

theorem tail1_snoc (c : UInt8) (t : Bs) (p : Nat × Nat) : ∀ acc : List Wd, tail1 c (acc ++ [(t, p)]) = acc ++ [(t ++ [c], p)]
  | [] => rfl
  | [x] => rfl
  | x :: y :: r => by
    show x :: tail1 c ((y :: r) ++ [(t, p)]) = _
    rw [tail1_snoc c t p (y :: r)]; rfl

/-- What comes behind a line. -/
def behind (s : Bs) (more : Bool) (L : Nat) (out : List (List Wd)) : Except (Nat × Nat) (List (List Wd)) :=
  if more = true then rt s (L + 1) 1 out [] false false else .ok out

theorem rt_com (L : Nat) (out : List (List Wd)) (line : List Wd) (wd : Bool) : ∀ (s : Bs) (C : Nat), rt s L C out line true wd = behind (cutNL s).2.1 (cutNL s).2.2 L (addL out line)
  | [], C => rfl
  | c :: r, C => by
    unfold rt cutNL
    by_cases h : c = 10
    · rw [if_pos h, if_pos h]; rfl
    · rw [if_neg h, if_neg h, if_pos rfl, rt_com L out line wd r]

theorem rt_line (L : Nat) (out : List (List Wd)) : ∀ (s : Bs) (i : Nat) (cur : Option (Bs × Nat)) (acc : List Wd),
    rt s L (i + 1) out (flushW L cur acc) false cur.isSome =
      match lt L (cutNL s).1 i cur acc with
      | .error j => .error (L, j + 1)
      | .ok ws => behind (cutNL s).2.1 (cutNL s).2.2 L (addL out ws)
  | [], i, cur, acc => rfl
  | c :: r, i, cur, acc => by
    unfold rt cutNL
    by_cases h : c = 10
    · rw [if_pos h, if_pos h]; rfl
    · rw [if_neg h, if_neg h, if_neg (by decide)]
      unfold lt
      by_cases h1 : c = 35
      · simp only [if_pos h1]
        rw [rt_com]
      · simp only [if_neg h1]
        by_cases h2 : sepB c = true
        · simp only [if_pos h2]
          have := rt_line L out r (i + 1) none (flushW L cur acc)
          simpa [flushW] using this
        · simp only [if_neg h2]
          by_cases h3 : badB c = true
          · simp only [if_pos h3]
          · simp only [if_neg h3]
            have := rt_line L out r (i + 1) (grow c i cur) acc
            cases cur with
            | none => simpa [grow, flushW] using this
            | some q =>
              obtain ⟨t, k⟩ := q
              have e : flushW L (grow c i (some (t, k))) acc = tail1 c (flushW L (some (t, k)) acc) := (tail1_snoc c t (L, k) acc).symm
              rw [e] at this
              simpa [grow] using this

theorem rt_ls : ∀ (k : Nat) (s : Bs) (L : Nat) (out : List (List Wd)), s.length ≤ k → rt s L 1 out [] false false = ls L s out
  | 0, s, L, out, h => by
    obtain rfl : s = [] := List.eq_nil_of_length_eq_zero (by omega)
    unfold ls rt
    rfl
  | k + 1, s, L, out, h => by
    have := rt_line L out s 0 none []
    simp only [flushW, Option.isSome_none] at this
    rw [show (0 : Nat) + 1 = 1 from rfl] at this
    rw [this]
    unfold ls
    cases lt L (cutNL s).1 0 none [] with
    | error j => rfl
    | ok ws =>
      unfold behind
      by_cases hm : (cutNL s).2.2 = true
      · simp only [hm, if_true, dite_true]
        exact rt_ls k _ _ _ (by have := cutNL_len s hm; omega)
      · simp only [if_neg hm, dif_neg hm]

/-- The reference's way is the program's. -/
theorem rt_tok (s : Bs) : rt s 1 1 [] [] false false = tok s := rt_ls s.length s 1 [] (Nat.le_refl _)

end Go.Proofs.YtgldgkaigomceaaDoor
