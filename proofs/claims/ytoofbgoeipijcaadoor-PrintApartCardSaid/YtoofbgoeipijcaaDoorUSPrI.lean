/-
 Programs as texts: the plain model of package print (no program in sight).
-/
import Derived.Test.YtoofbgoeipijcaaDoorUSPrP
import Derived.Lib.Join
import Derived.Lib.ItoaNum
namespace Go.Proofs.YtoofbgoeipijcaaDoor
set_option linter.unusedSimpArgs false
set_option linter.unusedVariables false
open Go.RowKit Go.Shelf

def argT (a : Ag) : Bs := if a.nm = [] then Lib.decDigits a.num else a.nm
def opT (o : Nat) : Bs := opL.getD (o - 2) []
def wLoad : Bs := [108, 111, 97, 100]
def wStore : Bs := [115, 116, 111, 114, 101]
def wCall : Bs := [99, 97, 108, 108]
def wIn : Bs := [105, 110]
def wOut : Bs := [111, 117, 116]
def wRelease : Bs := [114, 101, 108, 101, 97, 115, 101]
def wJump : Bs := [106, 117, 109, 112]
def wIf : Bs := [105, 102]
def wHalt : Bs := [104, 97, 108, 116]
def wRet : Bs := [114, 101, 116]
def wEnd : Bs := [101, 110, 100]
def wMain : Bs := [109, 97, 105, 110]
def wFunc : Bs := [102, 117, 110, 99]
def wChan : Bs := [99, 104, 97, 110]
def wArray : Bs := [97, 114, 114, 97, 121]
def wWidth : Bs := [119, 105, 100, 116, 104]
/-- The words of an instruction (but of a label). -/
def wordsM (x : In) : List Bs :=
 match x.kind with
 | 0 => x.dst :: [61] :: x.args.map argT
 | 1 => x.dst :: [61] :: opT x.op :: x.args.map argT
 | 2 => x.dst :: [61] :: wLoad :: x.nm :: x.args.map argT
 | 3 => wStore :: x.nm :: x.args.map argT
 | 4 => x.dst :: [61] :: wCall :: x.nm :: x.args.map argT
 | 5 => [wIn, x.dst, x.nm]
 | 6 => wOut :: x.nm :: x.args.map argT
 | 7 => x.dst :: [61] :: wRelease :: x.nm :: x.args.map argT
 | 8 => wJump :: x.nm :: x.args.map argT
 | 9 => wIf :: (x.args.map argT ++ [x.nm])
 | 11 => [wHalt]
 | 12 => wRet :: x.args.map argT
 | _ => []
def jn (l : List Bs) : Bs := Lib.join l [32]
def lineM (x : In) : Bs := if x.kind = 10 then x.nm ++ [58] else jn (wordsM x)
def instrM (x : In) : Bs × Int := if formB x then (lineM x, 0) else ([], 4)
def bodyT (l : List In) : List Bs := l.map lineM ++ [wEnd]
def funcT (f : Fu) : List Bs := jn (wFunc :: f.nm :: f.params) :: bodyT f.code
def linesT (p : Pg) : List Bs :=
 jn [wWidth, Lib.itoa p.width] :: (p.chans.map fun c => jn [wChan, c]) ++ (p.arrays.map fun a => jn [wArray, a.nm, Lib.itoa a.size]) ++ p.funcs.flatMap funcT ++ wMain :: bodyT p.main
def textT (l : List Bs) : Bs := l.flatMap fun s => s ++ [10]
def printM (p : Pg) : Bs × Int := if (checkM p).2 ≠ 0 then ([], (checkM p).2) else if 65536 < (textT (linesT p)).length then ([], 5) else (textT (linesT p), 0)

theorem jn_snoc (x : Bs) (l : List Bs) (y : Bs) : jn (x :: (l ++ [y])) = jn (x :: l) ++ [32] ++ y := by
 unfold jn
 rw [Lib.join_cons, Lib.join_cons]
 simp [Lib.joinTail, List.append_assoc]

/-- The program of one instruction, with what it names. -/
def aloneF (x : In) : Fu := ⟨if x.kind = 4 ∧ x.nm = [102] then [103] else [102], [], [{ x with pos := (1, 1) }], (0, 0)⟩
def parP (k : Nat) : Bs := [112] ++ Lib.itoa (k : Int)
def aloneG (x : In) : Fu := ⟨x.nm, (List.range x.args.length).map parP, [], (0, 0)⟩
def aloneP (x : In) : Pg := ⟨1, if x.kind = 5 ∨ x.kind = 6 then [x.nm] else [], if x.kind = 2 ∨ x.kind = 3 then [⟨x.nm, 1⟩] else [], if x.kind = 4 then [aloneF x, aloneG x] else [aloneF x], []⟩

theorem par_named : ∀ k, k < 32 → namedB (parP k) = true := by decide +kernel
theorem par_inj : ∀ j, j < 32 → ∀ k, k < 32 → parP j = parP k → j = k := by decide +kernel
theorem decl_par : ∀ (m k : Nat), k + m ≤ 32 → declM (0, 0) ((List.range k).map parP) ((List.range' k m).map parP) = none
 | 0, k, _ => rfl
 | m + 1, k, h => by
  rw [List.range'_succ, List.map_cons, declM, if_neg (by rw [par_named k (by omega)]; decide), if_neg, show (List.range k).map parP ++ [parP k] = (List.range (k + 1)).map parP by rw [List.range_succ, List.map_append]; rfl]
  ·exact decl_par m (k + 1) (by omega)
  ·rw [List.contains_iff_mem]
   intro hm
   obtain ⟨j, hj, e⟩ := List.mem_map.1 hm
   have hj' := List.mem_range.1 hj
   have := par_inj j (by omega) k (by omega) e
   omega
theorem form_pos (x : In) (q : Int × Int) : formB { x with pos := q } = formB x := rfl
theorem alone_bad (x : In) (h : formB x = false) : (checkM (aloneP x)).2 = 4 := by
 have hstep : ∀ (c a l s : List Bs), stepM c a false l s { x with pos := (1, 1) } = .error ((1, 1), 4) := fun c a l s => by
  unfold stepM; rw [form_pos, h]; rfl
 have hins : ∀ (c a s : List Bs) (q : Int × Int), instrsM c a false q [{ x with pos := (1, 1) }] s = .error ((1, 1), 4) := fun c a s q => by
  unfold instrsM; rw [if_neg (by simp)]
  unfold bodyM; rw [hstep]
 have hnf : namedB (aloneF x).nm = true := by unfold aloneF; simp only; split <;> decide
 have hf : ∀ (c a : List Bs) (r : List Fu), funcsM c a [] [] [] (aloneF x :: r) = .error ((1, 1), 4) := fun c a r => by
  unfold funcsM
  rw [if_neg (by rw [hnf]; decide), if_neg (by simp), if_neg (by simp [aloneF])]
  simp only [aloneF, declM, hins]
 unfold checkM
 rw [if_neg (by simp [aloneP]), if_neg (by simp [aloneP]; split <;> simp)]
 by_cases hc : ∃ f, declM (0, 0) [] (aloneP x).chans = some f
 ·obtain ⟨f, e⟩ := hc
  rw [e]
  simp only [aloneP] at e
  split at e
  ·simp only [declM] at e
   split at e
   ·cases e; rfl
   ·simp at e
  ·simp [declM] at e
 ·have e : declM (0, 0) [] (aloneP x).chans = none := by
   cases e : declM (0, 0) [] (aloneP x).chans with
   | none => rfl
   | some f => exact absurd ⟨f, e⟩ hc
  rw [e]
  simp only
  rw [if_neg (by simp [aloneP]; split <;> simp)]
  by_cases hc : ∃ f, arrsM [] (aloneP x).arrays = some f
  ·obtain ⟨f, e⟩ := hc
   rw [e]
   simp only [aloneP] at e
   split at e
   ·simp only [arrsM] at e
    split at e
    ·cases e; rfl
    ·simp at e
   ·simp [arrsM] at e
  ·have e : arrsM [] (aloneP x).arrays = none := by
    cases e : arrsM [] (aloneP x).arrays with
    | none => rfl
    | some f => exact absurd ⟨f, e⟩ hc
   rw [e]
   simp only
   rw [if_neg (by simp [aloneP]; split <;> simp)]
   by_cases h4 : x.kind = 4
   ·rw [show (aloneP x).funcs = [aloneF x, aloneG x] by simp [aloneP, h4], hf]
   ·rw [show (aloneP x).funcs = [aloneF x] by simp [aloneP, h4], hf]
theorem find_alone (x : In) (h4 : x.kind = 4) : paramsOf (aloneP x) x.nm = some x.args.length := by
 have hne : ¬ (aloneF x).nm = x.nm := by
  unfold aloneF; simp only [h4, true_and]
  split
  ·rename_i e; rw [e]; decide
  ·rename_i e; exact fun h => e h.symm
 have hg : (aloneG x).nm = x.nm := rfl
 unfold paramsOf
 rw [show (aloneP x).funcs = [aloneF x, aloneG x] by simp [aloneP, h4]]
 simp [hne, hg]
 simp [aloneG]
theorem targets_alone (x : In) (l : List Bs) : ∀ f, targetsM (aloneP x) l [{ x with pos := (1, 1) }] = some f → f.2 = 6 := by
 intro f h
 unfold targetsM targetsM targetM at h
 by_cases h89 : x.kind = 8 ∨ x.kind = 9
 ·rw [if_pos h89] at h
  by_cases hl : l.contains x.nm = true
  ·rw [if_pos hl] at h; cases h
  ·rw [if_neg hl] at h; cases h; rfl
 ·rw [if_neg h89] at h
  by_cases h4 : x.kind = 4
  ·rw [if_pos h4] at h
   simp only [find_alone x h4] at h
   simp at h
  ·rw [if_neg h4] at h; cases h
theorem loops_nine (p : Pg) : ∀ (l : List Fu) f, loopsAllM p l = some f → f.2 = 9
 | [], f, h => by cases h
 | g :: r, f, h => by
  unfold loopsAllM at h
  split at h
  ·cases h; rfl
  ·exact loops_nine p r f h
theorem alone_good (x : In) (h : formB x = true) : (checkM (aloneP x)).2 ≠ 4 ∧ (checkM (aloneP x)).2 ≠ 5 := by
 have hfm := h
 unfold formB at h
 simp only [Bool.and_eq_true, decide_eq_true_eq] at h
 obtain ⟨⟨⟨⟨⟨⟨hk, hop⟩, hd⟩, hn⟩, hw⟩, hl⟩, hag⟩ := h
 have hnf : namedB (aloneF x).nm = true := by unfold aloneF; simp only; split <;> decide
 have hnm : ∀ k, x.kind = k → (fieldsL.getD k (false, false, 0)).2.1 = true → namedB x.nm = true := fun k e e' => by
  rw [e, e'] at hn; exact hn
 have hch : declM (0, 0) [] (aloneP x).chans = none := by
  simp only [aloneP]
  split
  ·rename_i e
   have : namedB x.nm = true := by rcases e with e | e; exact hnm 5 e rfl; exact hnm 6 e rfl
   simp [declM, this]
  ·rfl
 have har : arrsM [] (aloneP x).arrays = none := by
  simp only [aloneP]
  split
  ·rename_i e
   have : namedB x.nm = true := by rcases e with e | e; exact hnm 2 e rfl; exact hnm 3 e rfl
   simp [arrsM, this]
  ·rfl
 have hstep : ∃ l s, stepM (aloneP x).chans ((aloneP x).arrays.map Ar.nm) false [] [] { x with pos := (1, 1) } = .ok (l, s) := by
  unfold stepM
  rw [form_pos, hfm]
  rw [if_neg (by simp)]
  by_cases c1 : x.kind = 5 ∨ x.kind = 6
  ·rw [if_pos c1, if_pos (by simp [aloneP, c1])]; exact ⟨_, _, rfl⟩
  ·rw [if_neg c1]
   by_cases c2 : x.kind = 2 ∨ x.kind = 3
   ·rw [if_pos c2, if_pos (by simp [aloneP, c2])]; exact ⟨_, _, rfl⟩
   ·rw [if_neg c2]
    by_cases c3 : x.kind = 10
    ·rw [if_pos c3, if_neg (by simp)]; exact ⟨_, _, rfl⟩
    ·rw [if_neg c3]
     by_cases c4 : x.kind = 7
     ·rw [if_pos c4, if_neg (by simp), if_pos (by simp)]; exact ⟨_, _, rfl⟩
     ·rw [if_neg c4]; exact ⟨_, _, rfl⟩
 obtain ⟨l0, s0, hstep⟩ := hstep
 have hins : instrsM (aloneP x).chans ((aloneP x).arrays.map Ar.nm) false (0, 0) [{ x with pos := (1, 1) }] [] = .ok (l0, s0) := by
  unfold instrsM; rw [if_neg (by simp)]
  unfold bodyM; rw [hstep]
  rfl
 have hfun : ∃ ls s, funcsM (aloneP x).chans ((aloneP x).arrays.map Ar.nm) [] [] [] (aloneP x).funcs = .ok (ls, s) := by
  by_cases h4 : x.kind = 4
  ·rw [show (aloneP x).funcs = [aloneF x, aloneG x] by simp [aloneP, h4]]
   unfold funcsM
   rw [if_neg (by rw [hnf]; decide), if_neg (by simp), if_neg (by simp [aloneF])]
   have e1 : declM (aloneF x).pos [] (aloneF x).params = none := rfl
   have e2 : instrsM (aloneP x).chans ((aloneP x).arrays.map Ar.nm) false (aloneF x).pos (aloneF x).code [] = .ok (l0, s0) := hins
   rw [e1]; simp only; rw [e2]; simp only
   unfold funcsM
   have n1 : namedB x.nm = true := hnm 4 h4 rfl
   have hne : ¬ (aloneF x).nm = x.nm := by
    unfold aloneF; simp only [h4, true_and]
    split
    ·rename_i e; rw [e]; decide
    ·rename_i e; exact fun h => e h.symm
   rw [if_neg (by show ¬ namedB x.nm = false; rw [n1]; decide), if_neg (by simp only [List.nil_append]; show ¬ [(aloneF x).nm].contains x.nm = true; simp; exact fun e => hne e.symm), if_neg (by simp [aloneG]; exact hl)]
   have e3 : declM (aloneG x).pos [] (aloneG x).params = none := by
    have := decl_par x.args.length 0 (by omega)
    rw [← List.range_eq_range'] at this
    exact this
   rw [e3]; simp only
   exact ⟨_, _, rfl⟩
  ·rw [show (aloneP x).funcs = [aloneF x] by simp [aloneP, h4]]
   unfold funcsM
   rw [if_neg (by rw [hnf]; decide), if_neg (by simp), if_neg (by simp [aloneF])]
   have e1 : declM (aloneF x).pos [] (aloneF x).params = none := rfl
   have e2 : instrsM (aloneP x).chans ((aloneP x).arrays.map Ar.nm) false (aloneF x).pos (aloneF x).code [] = .ok (l0, s0) := hins
   rw [e1]; simp only; rw [e2]
   exact ⟨_, _, rfl⟩
 obtain ⟨ls, s1, hfun⟩ := hfun
 have hmain : instrsM (aloneP x).chans ((aloneP x).arrays.map Ar.nm) true (0, 0) (aloneP x).main s1 = .ok ([], s1) := rfl
 have hlater : ∀ f, laterM (aloneP x) ls (aloneP x).funcs = some f → f.2 = 6 := by
  intro f hf
  have hf1 : ∀ f, targetsM (aloneP x) (ls.headD []) (aloneF x).code = some f → f.2 = 6 := targets_alone x _
  by_cases h4 : x.kind = 4
  ·rw [show (aloneP x).funcs = [aloneF x, aloneG x] by simp [aloneP, h4]] at hf
   unfold laterM at hf
   split at hf
   ·rename_i e; cases hf; exact hf1 _ e
   ·simp [laterM, aloneG, targetsM] at hf
  ·rw [show (aloneP x).funcs = [aloneF x] by simp [aloneP, h4]] at hf
   unfold laterM at hf
   split at hf
   ·rename_i e; cases hf; exact hf1 _ e
   ·simp [laterM] at hf
 have hres : (checkM (aloneP x)).2 = 6 ∨ (checkM (aloneP x)).2 = 9 ∨ (checkM (aloneP x)).2 = 0 := by
  unfold checkM
  rw [if_neg (by simp [aloneP]), if_neg (by simp [aloneP]; split <;> simp), hch]
  simp only
  rw [if_neg (by simp [aloneP]; split <;> simp), har]
  simp only
  rw [if_neg (by simp [aloneP]; split <;> simp), hfun]
  simp only
  rw [hmain]
  simp only
  cases e : laterM (aloneP x) ls (aloneP x).funcs with
  | some f => exact .inl (hlater f e)
  | none =>
   simp only [aloneP, targetsM]
   split
   ·rename_i f e; exact .inr (.inl (loops_nine _ _ _ e))
   ·exact .inr (.inr rfl)
 omega

end Go.Proofs.YtoofbgoeipijcaaDoor
