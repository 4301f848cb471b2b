/-
  The reader over lists of words: what matters of the lines are the words outside comments. Plain.
-/
import Derived.Test.YtfllhhgnflpagaaDoorDmU
import Derived.Test.YtfllhhgnflpagaaDoorDmW
namespace Go.Proofs.YtfllhhgnflpagaaDoor
set_option linter.unusedSimpArgs false
set_option linter.unusedVariables false

/-! ### lines as lists of words -/
def runF (n : Nat) (st : PS) (hd : Bool) : List (List Bs) → Except (Nat × Int) (PS × Bool)
  | [] => .ok (st, hd)
  | x :: r => match stepL st hd x with
    | .error e => .error (n, e)
    | .ok (st', hd') => runF (n + 1) st' hd' r
theorem runL_F : ∀ (l : List Bs) (n : Nat) (st : PS) (hd : Bool), runL n st hd l = runF n st hd (l.map fields)
  | [], n, st, hd => rfl
  | x :: r, n, st, hd => by
    unfold runL
    rw [List.map_cons]
    unfold runF
    cases stepL st hd (fields x) with
    | error e => rfl
    | ok q => exact runL_F r _ _ _
/-- A line that is passed over. -/
def skp (l : List Bs) : Bool := l.head? == none || l.head? == some [99]
theorem skp_iff (l : List Bs) : skp l = true ↔ (l = [] ∨ l.head? = some [99]) := by
  cases l <;> simp [skp]
/-- The words outside comments. -/
def toksL (ls : List (List Bs)) : List Bs := ls.flatMap fun l => if skp l then [] else l
theorem toksL_append (a b : List (List Bs)) : toksL (a ++ b) = toksL a ++ toksL b := List.flatMap_append
theorem toksL_one (l : List Bs) : toksL [l] = if skp l then [] else l := by simp [toksL]
theorem toksL_line {l : List Bs} (h : l.head? ≠ some [99]) : toksL [l] = l := by
  rw [toksL_one]
  cases l with
  | nil => simp
  | cons x r => rw [if_neg]; rw [skp_iff]; simp at h ⊢; exact h
theorem stepW_cons (st : PS) (x : Bs) (r : List Bs) : stepW st (x :: r) = match stepP st [x] with | .error e => .error e | .ok st' => stepW st' r := rfl
theorem stepW_append (a b : List Bs) : ∀ st : PS, stepW st (a ++ b) = match stepW st a with | .error e => .error e | .ok st' => stepW st' b := by
  induction a with
  | nil => intro st; rfl
  | cons x r ih =>
    intro st
    rw [List.cons_append, stepW_cons, stepW_cons]
    cases stepP st [x] with
    | error e => rfl
    | ok st' => exact ih st'
theorem runF_skip {n : Nat} {st : PS} {hd : Bool} {x : List Bs} {r : List (List Bs)} (h : skp x = true) : runF n st hd (x :: r) = runF (n + 1) st hd r := by
  rw [runF]; unfold stepL; rw [if_pos ((skp_iff x).1 h)]
theorem runF_words {n : Nat} {st : PS} {x : List Bs} {r : List (List Bs)} (h : skp x = false) : runF n st false (x :: r) = match stepW st x with | .error e => .error (n, e) | .ok st' => runF (n + 1) st' false r := by
  rw [runF]; unfold stepL
  rw [if_neg (fun e => by have := (skp_iff x).2 e; rw [h] at this; cases this)]
  simp only [Bool.false_eq_true, if_false]
  cases stepW st x <;> rfl
theorem runF_head {n : Nat} {st : PS} {x : List Bs} {r : List (List Bs)} (h : skp x = false) : runF n st true (x :: r) = match stepP st x with | .error e => .error (n, e) | .ok st' => runF (n + 1) st' false r := by
  rw [runF]; unfold stepL
  rw [if_neg (fun e => by have := (skp_iff x).2 e; rw [h] at this; cases this)]
  simp only [if_true]
  cases stepP st x <;> rfl
theorem runF_toks : ∀ (ls : List (List Bs)) (n : Nat) (st st' : PS), stepW st (toksL ls) = .ok st' → runF n st false ls = .ok (st', false)
  | [], n, st, st', h => by
    have h' : stepW st [] = .ok st' := h
    unfold stepW at h'
    cases h'; rfl
  | x :: r, n, st, st', h => by
    have e : toksL (x :: r) = (if skp x then [] else x) ++ toksL r := by simp [toksL]
    rw [e] at h
    cases hs : skp x with
    | true =>
      rw [hs] at h
      rw [runF_skip hs]
      exact runF_toks r _ _ _ h
    | false =>
      rw [hs] at h
      simp only [Bool.false_eq_true, if_false] at h
      rw [stepW_append] at h
      rw [runF_words hs]
      cases hx : stepW st x with
      | error e => rw [hx] at h; cases h
      | ok s1 => rw [hx] at h; exact runF_toks r _ _ _ h
theorem runF_cons (n : Nat) (st : PS) (hd : Bool) (x : List Bs) (r : List (List Bs)) : runF n st hd (x :: r) = match stepL st hd x with | .error e => .error (n, e) | .ok (st', hd') => runF (n + 1) st' hd' r := rfl
theorem runF_append : ∀ (a b : List (List Bs)) (n : Nat) (st st' : PS) (hd hd' : Bool), runF n st hd a = .ok (st', hd') → runF n st hd (a ++ b) = runF (n + a.length) st' hd' b
  | [], b, n, st, st', hd, hd', h => by unfold runF at h; cases h; rfl
  | x :: r, b, n, st, st', hd, hd', h => by
    rw [List.cons_append, runF_cons]
    rw [runF_cons] at h
    cases hs : stepL st hd x with
    | error e => rw [hs] at h; cases h
    | ok q =>
      rw [hs] at h
      simp only at h ⊢
      rw [runF_append r b _ _ _ _ _ h, List.length_cons, show n + 1 + r.length = n + (r.length + 1) by omega]
theorem runF_pre : ∀ (ls r : List (List Bs)) (n : Nat) (st : PS) (hd : Bool), (∀ l ∈ ls, skp l = true) → runF n st hd (ls ++ r) = runF (n + ls.length) st hd r
  | [], r, n, st, hd, _ => rfl
  | x :: t, r, n, st, hd, h => by
    rw [List.cons_append, runF_skip (h x (by simp)), runF_pre t r _ _ _ (fun l hl => h l (by simp [hl])), List.length_cons, show n + 1 + t.length = n + (t.length + 1) by omega]
/-- The reader, over the lines' words. -/
def parseF (ls : List (List Bs)) : (Int × List (List Int)) × Int × Int :=
  match runF 1 ps0 true ls with
  | .error (n, e) => ((0, []), n, e)
  | .ok (st, _) => if st.left ≠ 0 then ((0, []), ls.length + 1, 4) else ((st.vars, st.cls), 0, 0)
theorem parseM_F {s : Bs} (h : ¬ 65536 < s.length) : parseM s = parseF (lr s true [] [] []) := by
  unfold parseM parseF
  rw [if_neg h, runL_F, lr_lines, List.length_map]
  cases runF 1 ps0 true (List.map fields (linesM s)) with
  | error e => rfl
  | ok q => rfl

/-! ### the scanner as a fold -/
structure LS where
  nl : Bool
  out : List (List Bs)
  line : List Bs
  word : Bs
def stp (S : LS) (c : UInt8) : LS :=
  if c = 10 then ⟨true, S.out ++ [flushB S.word S.line], [], []⟩
  else if isBl c then ⟨false, S.out, flushB S.word S.line, []⟩
  else ⟨false, S.out, S.line, S.word ++ [c]⟩
def finS (S : LS) : List (List Bs) := if S.nl then S.out else S.out ++ [flushB S.word S.line]
theorem lr_fold : ∀ (s : Bs) (S : LS), lr s S.nl S.out S.line S.word = finS (s.foldl stp S)
  | [], S => rfl
  | c :: r, S => by
    rw [List.foldl_cons, ← lr_fold r (stp S c)]
    rw [lr]
    unfold stp
    split
    · rfl
    · split <;> rfl
theorem lr_start (s : Bs) : lr s true [] [] [] = finS (s.foldl stp ⟨true, [], [], []⟩) := lr_fold s ⟨true, [], [], []⟩

theorem stp_nl (S : LS) : stp S 10 = ⟨true, S.out ++ [flushB S.word S.line], [], []⟩ := by unfold stp; rw [if_pos rfl]
/-- Between words, outside comments; the words so far are T. -/
def Okl (S : LS) (T : List Bs) (o : List (List Bs)) : Prop := S.word = [] ∧ S.line.head? ≠ some [99] ∧ (S.nl = true → S.line = []) ∧ ∃ o', S.out = o ++ o' ∧ toksL o' ++ S.line = T
/-- Behind the word w. -/
def Mid (S : LS) (T : List Bs) (w : Bs) (o : List (List Bs)) : Prop := S.nl = false ∧ S.word = w ∧ S.line.head? ≠ some [99] ∧ ∃ o', S.out = o ++ o' ∧ toksL o' ++ S.line = T
def plainB (b : UInt8) : Bool := !(b == 10) && !isBl b
theorem stp_plain {S : LS} {c : UInt8} (h : plainB c = true) : stp S c = ⟨false, S.out, S.line, S.word ++ [c]⟩ := by
  simp only [plainB, Bool.and_eq_true, Bool.not_eq_true', beq_eq_false_iff_ne] at h
  unfold stp
  rw [if_neg h.1, h.2]; rfl
theorem fold_plain : ∀ (w : Bs) (S : LS), w.all plainB = true → w ≠ [] → w.foldl stp S = ⟨false, S.out, S.line, S.word ++ w⟩
  | [], S, _, h => absurd rfl h
  | c :: r, S, h, _ => by
    simp only [List.all_cons, Bool.and_eq_true] at h
    rw [List.foldl_cons, stp_plain h.1]
    by_cases hr : r = []
    · subst hr; rfl
    · rw [fold_plain r _ h.2 hr]
      simp
theorem Okl.word {S : LS} {T : List Bs} {o : List (List Bs)} (h : Okl S T o) {w : Bs} (hw : w.all plainB = true) (hne : w ≠ []) : Mid (w.foldl stp S) T w o := by
  rw [fold_plain w S hw hne]
  obtain ⟨h1, h2, h3, h4⟩ := h
  exact ⟨rfl, by rw [h1]; rfl, h2, h4⟩
theorem flush_ne {w : Bs} (h : w ≠ []) (l : List Bs) : flushB w l = l ++ [w] := by unfold flushB; rw [if_neg h]
theorem head_snoc {l : List Bs} {w : Bs} (h : l.head? ≠ some [99]) (hw : w ≠ [99]) : (l ++ [w]).head? ≠ some [99] := by
  cases l with
  | nil => simpa using hw
  | cons x r => simpa using h
/-- The text after a word up to the next one. -/
def seps : List Bs := [[32], [9], [32, 32], [10], [32, 10, 9], [10, 99, 10], [10, 99, 32, 49, 32, 48, 32, 112, 32, 99, 110, 102, 10, 10]]
theorem Mid.blank {S : LS} {T : List Bs} {w : Bs} {o : List (List Bs)} (h : Mid S T w o) (hne : w ≠ []) (hw : w ≠ [99]) {c : UInt8} (hc : isBl c = true) (h10 : c ≠ 10) : Okl (stp S c) (T ++ [w]) o := by
  obtain ⟨h1, h2, h3, o', h4, h5⟩ := h
  unfold stp
  rw [if_neg h10, if_pos hc, h2, flush_ne hne]
  exact ⟨rfl, head_snoc h3 hw, (fun e => by cases e), o', h4, by simp only [← h5, List.append_assoc]⟩
theorem Mid.nl {S : LS} {T : List Bs} {w : Bs} {o : List (List Bs)} (h : Mid S T w o) (hne : w ≠ []) (hw : w ≠ [99]) : Okl (stp S 10) (T ++ [w]) o := by
  obtain ⟨h1, h2, h3, o', h4, h5⟩ := h
  unfold stp
  rw [if_pos rfl, h2, flush_ne hne]
  refine ⟨rfl, by simp, (fun _ => rfl), o' ++ [S.line ++ [w]], by simp only [h4, List.append_assoc], ?_⟩
  rw [toksL_append, toksL_line (head_snoc h3 hw), List.append_nil, ← h5, List.append_assoc]
theorem Okl.blank {S : LS} {T : List Bs} {o : List (List Bs)} (h : Okl S T o) {c : UInt8} (hc : isBl c = true) (h10 : c ≠ 10) : Okl (stp S c) T o := by
  obtain ⟨h1, h2, h3, o', h4, h5⟩ := h
  unfold stp
  rw [if_neg h10, if_pos hc, h1, flushB_nil]
  exact ⟨rfl, h2, (fun e => by cases e), o', h4, h5⟩
theorem Okl.nl {S : LS} {T : List Bs} {o : List (List Bs)} (h : Okl S T o) : Okl (stp S 10) T o ∧ (stp S 10).line = [] := by
  obtain ⟨h1, h2, h3, o', h4, h5⟩ := h
  unfold stp
  rw [if_pos rfl, h1, flushB_nil]
  refine ⟨⟨rfl, by simp, (fun _ => rfl), o' ++ [S.line], by simp only [h4, List.append_assoc], ?_⟩, rfl⟩
  rw [toksL_append, toksL_line h2, List.append_nil, ← h5]
/-- A comment, from the start of a line on. -/
theorem Okl.com {S : LS} {T : List Bs} {o : List (List Bs)} (h : Okl S T o) (hl : S.line = []) (t : Bs) (L : List Bs) (ht : (99 :: t).foldl stp ⟨false, [], [], []⟩ = ⟨false, [], [99] :: L, []⟩ ∨ ∃ w, (99 :: t).foldl stp ⟨false, [], [], []⟩ = ⟨false, [], if w = [99] then [] else [99] :: L, w⟩ ∧ w ≠ []) (hpre : ∀ S : LS, S.line = [] → S.word = [] → (99 :: t).foldl stp S = ⟨false, S.out, ((99 :: t).foldl stp ⟨false, [], [], []⟩).line, ((99 :: t).foldl stp ⟨false, [], [], []⟩).word⟩) :
    Okl (stp ((99 :: t).foldl stp S) 10) T o ∧ (stp ((99 :: t).foldl stp S) 10).line = [] := by
  obtain ⟨h1, h2, h3, o', h4, h5⟩ := h
  rw [hpre S hl h1, stp_nl]
  refine ⟨⟨rfl, by simp, (fun _ => rfl), o' ++ [flushB ((99 :: t).foldl stp ⟨false, [], [], []⟩).word ((99 :: t).foldl stp ⟨false, [], [], []⟩).line], by simp only [h4, List.append_assoc], ?_⟩, rfl⟩
  have hsk : skp (flushB ((99 :: t).foldl stp ⟨false, [], [], []⟩).word ((99 :: t).foldl stp ⟨false, [], [], []⟩).line) = true := by
    rw [skp_iff]; right
    rcases ht with ht | ⟨w, ht, hw⟩
    · rw [ht]; simp [flushB]
    · rw [ht]
      show (flushB w (if w = [99] then [] else [99] :: L)).head? = _
      rw [flush_ne hw]
      by_cases e : w = [99]
      · rw [if_pos e, e]; rfl
      · rw [if_neg e]; rfl
  rw [toksL_append, toksL_one, hsk]
  simp only [if_true, List.append_nil]
  rw [hl, List.append_nil] at h5
  exact h5
theorem Mid.sep {S : LS} {T : List Bs} {w : Bs} {o : List (List Bs)} (h : Mid S T w o) (hne : w ≠ []) (hw : w ≠ [99]) {p : Bs} (hp : p ∈ seps) : Okl (p.foldl stp S) (T ++ [w]) o := by
  have b32 : isBl 32 = true := rfl
  have b9 : isBl 9 = true := rfl
  have n32 : (32 : UInt8) ≠ 10 := by decide
  have n9 : (9 : UInt8) ≠ 10 := by decide
  unfold seps at hp
  simp only [List.mem_cons, List.not_mem_nil, or_false] at hp
  rcases hp with rfl | rfl | rfl | rfl | rfl | rfl | rfl
  · exact h.blank hne hw b32 n32
  · exact h.blank hne hw b9 n9
  · exact (h.blank hne hw b32 n32).blank b32 n32
  · exact h.nl hne hw
  · exact (((h.blank hne hw b32 n32).nl).1).blank b9 n9
  · have h1 := h.nl hne hw
    have hl : (stp S 10).line = [] := by unfold stp; rw [if_pos rfl]
    exact (h1.com hl [] [] (.inr ⟨[99], rfl, by decide⟩) (fun S h1 h2 => by simp [stp, isBl, h1, h2])).1
  · have h1 := h.nl hne hw
    have hl : (stp S 10).line = [] := by unfold stp; rw [if_pos rfl]
    have h2 := h1.com hl [32, 49, 32, 48, 32, 112, 32, 99, 110, 102] [[49], [48], [112]] (.inr ⟨[99, 110, 102], by rfl, by decide⟩) (fun S h1 h2 => by simp [stp, isBl, h1, h2, flushB])
    exact h2.1.nl.1
theorem Okl.fin {S : LS} {T : List Bs} {o : List (List Bs)} (h : Okl S T o) : ∃ o', finS S = o ++ o' ∧ toksL o' = T := by
  obtain ⟨h1, h2, h3, o', h4, h5⟩ := h
  unfold finS
  by_cases hn : S.nl = true
  · rw [if_pos hn]
    rw [h3 hn, List.append_nil] at h5
    exact ⟨o', h4, h5⟩
  · rw [if_neg hn, h1, flushB_nil]
    exact ⟨o' ++ [S.line], by rw [h4, List.append_assoc], by rw [toksL_append, toksL_line h2, h5]⟩

end Go.Proofs.YtfllhhgnflpagaaDoor
