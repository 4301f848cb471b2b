/-
  The text of a well-formed program, read back (no program in sight).
-/
import Derived.Test.YtoofbgoeipijcaaDoorB38
namespace Go.Proofs.YtoofbgoeipijcaaDoor
set_option linter.unusedSimpArgs false
set_option linter.unusedVariables false
open Go.RowKit Go.Shelf

def OkWd (w : Bs) : Prop := w ≠ [] ∧ ∀ d ∈ w, plB d = true
theorem jn_cons2 (w v : Bs) (r : List Bs) : jn (w :: v :: r) = w ++ 32 :: jn (v :: r) := by
  unfold jn
  rw [Lib.join_cons, Lib.join_cons]
  simp [Lib.joinTail, List.append_assoc]
theorem jn_one (w : Bs) : jn [w] = w := by unfold jn; rw [Lib.join_cons]; simp [Lib.joinTail]
theorem jn_nl : ∀ (l : List Bs), (∀ w ∈ l, OkWd w) → ∀ d ∈ jn l, d ≠ 10
  | [], _ => by intro d hd; simp [jn, Lib.join] at hd
  | [w], h => by
    intro d hd
    rw [jn_one] at hd
    exact (plB_spec ((h w (by simp)).2 d hd)).2.2.2
  | w :: v :: r, h => by
    intro d hd
    rw [jn_cons2] at hd
    rcases List.mem_append.1 hd with hd | hd
    · exact (plB_spec ((h w (by simp)).2 d hd)).2.2.2
    · rcases List.mem_cons.1 hd with rfl | hd
      · decide
      · exact jn_nl (v :: r) (fun u hu => h u (List.mem_cons_of_mem w hu)) d hd
/-! ### the words of a well-formed program -/
theorem okw_named {s : Bs} (h : namedB s = true) : OkWd s := by
  obtain ⟨h1, _, h3, _⟩ := named_spec h
  refine ⟨h1, fun d hd => ?_⟩
  have := namB_bd (h3 d hd)
  simp [plB]; omega
theorem okw_dec (n : Nat) : OkWd (Lib.decDigits n) := by
  refine ⟨(dec_head n).2, fun d hd => ?_⟩
  have := List.all_eq_true.1 (decDigits_all n) d hd
  simp [digB] at this
  simp [plB]; omega
theorem okw_itoa (z : Int) (h : 0 ≤ z) : OkWd (Lib.itoa z) := by
  have : Lib.itoa z = Lib.decDigits z.toNat := by unfold Lib.itoa; rw [if_neg (by omega)]
  rw [this]; exact okw_dec _
theorem okw_arg (a : Ag) (h : argB a = true) : OkWd (argT a) := by
  unfold argT
  by_cases e : a.nm = []
  · rw [if_pos e]; exact okw_dec _
  · rw [if_neg e]
    unfold argB at h
    simp only [e, decide_false, Bool.false_or, Bool.and_eq_true] at h
    exact okw_named h.1
def okwB (w : Bs) : Bool := !w.isEmpty && w.all plB
theorem okw_lit {w : Bs} (h : okwB w = true) : OkWd w := by
  unfold okwB at h
  simp at h
  exact ⟨by simpa using h.1, fun d hd => h.2 d hd⟩
theorem okw_op {o : Nat} (h1 : 2 ≤ o) (h2 : o ≤ 20) : OkWd (opT o) := by
  have : ∀ o, o < 21 → 2 ≤ o → okwB (opT o) = true := by decide
  exact okw_lit (this o (by omega) h1)
theorem okw_lbl {s : Bs} (h : namedB s = true) : OkWd (s ++ [58]) := by
  refine ⟨by simp, fun d hd => ?_⟩
  rcases List.mem_append.1 hd with hd | hd
  · exact (okw_named h).2 d hd
  · obtain rfl := List.mem_singleton.1 hd; decide
theorem okw_instr (x : In) (h : formB x = true) : wlI x ≠ [] ∧ ∀ w ∈ wlI x, OkWd w := by
  unfold formB at h
  simp only [Bool.and_eq_true, decide_eq_true_eq, Bool.or_eq_true, List.all_eq_true] at h
  obtain ⟨⟨⟨⟨⟨⟨hk, hop⟩, hd⟩, hn⟩, hwt⟩, hl⟩, hag⟩ := h
  obtain ⟨kind, op, dst, nm, args, pos⟩ := x
  simp only at *
  have hA : ∀ w ∈ args.map argT, OkWd w := by
    intro w hw
    obtain ⟨a, ha, rfl⟩ := List.mem_map.1 hw
    exact okw_arg a (hag a ha)
  have e61 : OkWd [61] := okw_lit (by decide)
  match kind, hk with
  | 0, _ =>
    simp [fieldsL, fieldB] at hd hn
    refine ⟨by simp [wlI, wordsM], fun w hw => ?_⟩
    simp only [wlI, wordsM] at hw
    simp only [show ¬ (0 = 10) by decide, if_false, List.mem_cons] at hw
    rcases hw with rfl | rfl | hw
    · exact okw_named hd
    · exact e61
    · exact hA w hw
  | 1, _ =>
    simp [fieldsL, fieldB, opOkB] at hop hd hn
    refine ⟨by simp [wlI, wordsM], fun w hw => ?_⟩
    simp only [wlI, wordsM] at hw
    simp only [show ¬ (1 = 10) by decide, if_false, List.mem_cons] at hw
    rcases hw with rfl | rfl | rfl | hw
    · exact okw_named hd
    · exact e61
    · exact okw_op hop.1 hop.2
    · exact hA w hw
  | 2, _ =>
    simp [fieldsL, fieldB] at hd hn
    refine ⟨by simp [wlI, wordsM], fun w hw => ?_⟩
    simp only [wlI, wordsM] at hw
    simp only [show ¬ (2 = 10) by decide, if_false, List.mem_cons] at hw
    rcases hw with rfl | rfl | rfl | rfl | hw
    · exact okw_named hd
    · exact e61
    · exact okw_lit (by decide)
    · exact okw_named hn
    · exact hA w hw
  | 3, _ =>
    simp [fieldsL, fieldB] at hd hn
    refine ⟨by simp [wlI, wordsM], fun w hw => ?_⟩
    simp only [wlI, wordsM] at hw
    simp only [show ¬ (3 = 10) by decide, if_false, List.mem_cons] at hw
    rcases hw with rfl | rfl | hw
    · exact okw_lit (by decide)
    · exact okw_named hn
    · exact hA w hw
  | 4, _ =>
    simp [fieldsL, fieldB] at hd hn
    refine ⟨by simp [wlI, wordsM], fun w hw => ?_⟩
    simp only [wlI, wordsM] at hw
    simp only [show ¬ (4 = 10) by decide, if_false, List.mem_cons] at hw
    rcases hw with rfl | rfl | rfl | rfl | hw
    · exact okw_named hd
    · exact e61
    · exact okw_lit (by decide)
    · exact okw_named hn
    · exact hA w hw
  | 5, _ =>
    simp [fieldsL, fieldB] at hd hn
    refine ⟨by simp [wlI, wordsM], fun w hw => ?_⟩
    simp only [wlI, wordsM] at hw
    simp only [show ¬ (5 = 10) by decide, if_false, List.mem_cons, List.not_mem_nil, or_false] at hw
    rcases hw with rfl | rfl | rfl
    · exact okw_lit (by decide)
    · exact okw_named hd
    · exact okw_named hn
  | 6, _ =>
    simp [fieldsL, fieldB] at hd hn
    refine ⟨by simp [wlI, wordsM], fun w hw => ?_⟩
    simp only [wlI, wordsM] at hw
    simp only [show ¬ (6 = 10) by decide, if_false, List.mem_cons] at hw
    rcases hw with rfl | rfl | hw
    · exact okw_lit (by decide)
    · exact okw_named hn
    · exact hA w hw
  | 7, _ =>
    simp [fieldsL, fieldB] at hd hn
    refine ⟨by simp [wlI, wordsM], fun w hw => ?_⟩
    simp only [wlI, wordsM] at hw
    simp only [show ¬ (7 = 10) by decide, if_false, List.mem_cons] at hw
    rcases hw with rfl | rfl | rfl | rfl | hw
    · exact okw_named hd
    · exact e61
    · exact okw_lit (by decide)
    · exact okw_named hn
    · exact hA w hw
  | 8, _ =>
    simp [fieldsL, fieldB] at hd hn
    refine ⟨by simp [wlI, wordsM], fun w hw => ?_⟩
    simp only [wlI, wordsM] at hw
    simp only [show ¬ (8 = 10) by decide, if_false, List.mem_cons] at hw
    rcases hw with rfl | rfl | hw
    · exact okw_lit (by decide)
    · exact okw_named hn
    · exact hA w hw
  | 9, _ =>
    simp [fieldsL, fieldB] at hd hn
    refine ⟨by simp [wlI, wordsM], fun w hw => ?_⟩
    simp only [wlI, wordsM] at hw
    simp only [show ¬ (9 = 10) by decide, if_false, List.mem_cons, List.mem_append, List.not_mem_nil, or_false] at hw
    rcases hw with rfl | hw | rfl
    · exact okw_lit (by decide)
    · exact hA w hw
    · exact okw_named hn
  | 10, _ =>
    simp [fieldsL, fieldB] at hd hn
    refine ⟨by simp [wlI, wordsM], fun w hw => ?_⟩
    simp only [wlI, if_true, List.mem_singleton] at hw
    subst hw
    exact okw_lbl hn
  | 11, _ =>
    refine ⟨by simp [wlI, wordsM], fun w hw => ?_⟩
    simp only [wlI, wordsM] at hw
    simp only [show ¬ (11 = 10) by decide, if_false, List.mem_cons, List.not_mem_nil, or_false] at hw
    subst hw
    exact okw_lit (by decide)
  | 12, _ =>
    refine ⟨by simp [wlI, wordsM], fun w hw => ?_⟩
    simp only [wlI, wordsM] at hw
    simp only [show ¬ (12 = 10) by decide, if_false, List.mem_cons] at hw
    rcases hw with rfl | hw
    · exact okw_lit (by decide)
    · exact hA w hw
  | k + 13, h => omega
theorem decl_named (q : Int × Int) : ∀ (l seen : List Bs), declM q seen l = none → ∀ s ∈ l, namedB s = true
  | [], _, _ => by simp
  | x :: r, seen, h => by
    unfold declM at h
    split at h
    · cases h
    · rename_i c
      split at h
      · cases h
      · intro s hs
        rcases List.mem_cons.1 hs with rfl | hs
        · simpa using c
        · exact decl_named q r _ h s hs
theorem arrs_named : ∀ (l : List Ar) (seen : List Bs), arrsM seen l = none → ∀ a ∈ l, namedB a.nm = true ∧ 1 ≤ a.size ∧ a.size ≤ 64
  | [], _, _ => by simp
  | x :: r, seen, h => by
    unfold arrsM at h
    split at h
    · cases h
    · rename_i c
      split at h
      · cases h
      · split at h
        · cases h
        · rename_i c3
          intro s hs
          rcases List.mem_cons.1 hs with rfl | hs
          · exact ⟨by simpa using c, by omega, by omega⟩
          · exact arrs_named r _ h s hs
theorem step_form {ch ar : List Bs} {m : Bool} {l s l' s' : List Bs} {x : In} (h : stepM ch ar m l s x = .ok (l', s')) : formB x = true := by
  unfold stepM at h
  split at h
  · cases h
  · rename_i c
    cases hx : formB x with
    | true => rfl
    | false => rw [hx] at c; simp at c
theorem body_form {ch ar : List Bs} {m : Bool} : ∀ (code : List In) (l s l' s' : List Bs), bodyM ch ar m code l s = .ok (l', s') → ∀ x ∈ code, formB x = true
  | [], _, _, _, _, _ => by simp
  | y :: r, l, s, l', s', h => by
    unfold bodyM at h
    cases e : stepM ch ar m l s y with
    | error f => rw [e] at h; cases h
    | ok q =>
      obtain ⟨l1, s1⟩ := q
      rw [e] at h
      intro x hx
      rcases List.mem_cons.1 hx with rfl | hx
      · exact step_form e
      · exact body_form r l1 s1 l' s' h x hx
theorem funcs_form {ch ar : List Bs} : ∀ (l : List Fu) (seen : List Bs) (ls : List (List Bs)) (s : List Bs) (ls' : List (List Bs)) (s' : List Bs), funcsM ch ar seen ls s l = .ok (ls', s') →
    ∀ f ∈ l, namedB f.nm = true ∧ (∀ q ∈ f.params, namedB q = true) ∧ f.params.length ≤ 32 ∧ f.code.length ≤ 1024 ∧ ∀ x ∈ f.code, formB x = true
  | [], _, _, _, _, _, _ => by simp
  | g :: r, seen, ls, s, ls', s', h => by
    unfold funcsM at h
    by_cases c1 : namedB g.nm = false
    · rw [if_pos c1] at h; cases h
    rw [if_neg c1] at h
    by_cases c2 : seen.contains g.nm = true
    · rw [if_pos c2] at h; cases h
    rw [if_neg c2] at h
    by_cases c3 : 32 < g.params.length
    · rw [if_pos c3] at h; cases h
    rw [if_neg c3] at h
    cases hd : declM g.pos [] g.params with
    | some x => rw [hd] at h; cases h
    | none =>
      rw [hd] at h
      simp only at h
      unfold instrsM at h
      by_cases c4 : 1024 < g.code.length
      · rw [if_pos c4] at h; cases h
      rw [if_neg c4] at h
      cases hbm : bodyM ch ar false g.code [] s with
      | error x => rw [hbm] at h; cases h
      | ok q' =>
        obtain ⟨l1, s1⟩ := q'
        rw [hbm] at h
        intro f hf
        rcases List.mem_cons.1 hf with rfl | hf
        · exact ⟨by simpa using c1, decl_named _ _ _ hd, by omega, by omega, body_form _ _ _ _ _ hbm⟩
        · exact funcs_form r _ _ _ _ _ h f hf
theorem okw_body (l : List In) (h : ∀ x ∈ l, formB x = true) : ∀ k ∈ bodyW l, k ≠ [] ∧ ∀ w ∈ k, OkWd w := by
  intro k hk
  unfold bodyW at hk
  rcases List.mem_append.1 hk with hk | hk
  · obtain ⟨x, hx, rfl⟩ := List.mem_map.1 hk
    exact okw_instr x (h x hx)
  · obtain rfl := List.mem_singleton.1 hk
    exact ⟨by simp, fun w hw => by obtain rfl := List.mem_singleton.1 hw; exact okw_lit (by decide)⟩
theorem okw_lines (p : Pg) (h : (checkM p).2 = 0) : ∀ k ∈ linesW p, k ≠ [] ∧ ∀ w ∈ k, OkWd w := by
  obtain ⟨ls, s1, ml, s2, ⟨hw1, hw2⟩, c2, hch, c3, har, c4, hf, c5, hm⟩ := check_parts p h
  intro k hk
  unfold linesW at hk
  simp only [List.cons_append, List.append_assoc, List.mem_cons, List.mem_append, List.mem_map, List.mem_flatMap] at hk
  rcases hk with rfl | ⟨c, hc, rfl⟩ | ⟨a, ha, rfl⟩ | ⟨f, hf', hk⟩ | rfl | hk
  · refine ⟨by simp, fun w hw => ?_⟩
    simp only [List.mem_cons, List.not_mem_nil, or_false] at hw
    rcases hw with rfl | rfl
    · exact okw_lit (by decide)
    · exact okw_itoa _ (by omega)
  · refine ⟨by simp, fun w hw => ?_⟩
    simp only [List.mem_cons, List.not_mem_nil, or_false] at hw
    rcases hw with rfl | rfl
    · exact okw_lit (by decide)
    · exact okw_named (decl_named _ _ _ hch _ hc)
  · obtain ⟨a1, a2, a3⟩ := arrs_named _ _ har a ha
    refine ⟨by simp, fun w hw => ?_⟩
    simp only [List.mem_cons, List.not_mem_nil, or_false] at hw
    rcases hw with rfl | rfl | rfl
    · exact okw_lit (by decide)
    · exact okw_named a1
    · exact okw_itoa _ (by omega)
  · obtain ⟨f1, f2, _, _, f3⟩ := funcs_form _ _ _ _ _ _ hf f hf'
    unfold funcW at hk
    rcases List.mem_cons.1 hk with rfl | hk
    · refine ⟨by simp, fun w hw => ?_⟩
      simp only [List.mem_cons] at hw
      rcases hw with rfl | rfl | hw
      · exact okw_lit (by decide)
      · exact okw_named f1
      · exact okw_named (f2 w hw)
    · exact okw_body _ f3 k hk
  · refine ⟨by simp, fun w hw => ?_⟩
    obtain rfl := List.mem_singleton.1 hw
    exact okw_lit (by decide)
  · exact okw_body _ (body_form _ _ _ _ _ hm) k hk
theorem line_jn (x : In) : lineM x = jn (wlI x) := by
  unfold lineM wlI
  by_cases h : x.kind = 10
  · rw [if_pos h, if_pos h, jn_one]
  · rw [if_neg h, if_neg h]
theorem body_jn (l : List In) : bodyT l = (bodyW l).map jn := by
  unfold bodyT bodyW
  rw [List.map_append, List.map_map]
  congr 1
  apply List.map_congr_left
  intro x _
  exact line_jn x
theorem lines_jn (p : Pg) : linesT p = (linesW p).map jn := by
  unfold linesT linesW
  simp only [List.map_append, List.map_cons, List.map_map, List.map_flatMap, body_jn, jn_one]
  congr 2
  · congr 1
    funext f
    unfold funcT funcW
    rw [List.map_cons, body_jn]
    rfl
  all_goals rfl
/-! ### positions do not matter -/
end Go.Proofs.YtoofbgoeipijcaaDoor
