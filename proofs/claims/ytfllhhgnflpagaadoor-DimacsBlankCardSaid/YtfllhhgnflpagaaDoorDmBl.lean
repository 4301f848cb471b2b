/-
  A text with other separators and comments is read as the same formula. Plain.
-/
import Derived.Test.YtfllhhgnflpagaaDoorDmVl
namespace Go.Proofs.YtfllhhgnflpagaaDoor
set_option linter.unusedSimpArgs false
set_option linter.unusedVariables false

def oddB (k : Nat) : Bs := seps.getD (k % 7) []
theorem oddB_mem (k : Nat) : oddB k ∈ seps := by
  unfold oddB
  have h : k % 7 < 7 := Nat.mod_lt _ (by omega)
  rw [List.getD_eq_getElem?_getD, List.getElem?_eq_getElem (show k % 7 < seps.length from h)]
  exact List.getElem_mem _
theorem seps_len {p : Bs} (h : p ∈ seps) : p.length ≤ 14 := by
  unfold seps at h
  simp only [List.mem_cons, List.not_mem_nil, or_false] at h
  rcases h with rfl | rfl | rfl | rfl | rfl | rfl | rfl <;> decide
/-- The separator that comes next. -/
def spB (bs : Bs) (at' : Nat) : Bs := if bs = [] then oddB 0 else oddB (bs.getD (at' % bs.length) 0).toNat
theorem spB_mem (bs : Bs) (a : Nat) : spB bs a ∈ seps := by unfold spB; split <;> exact oddB_mem _
/-- The law's loop. -/
def blF (bs : Bs) : Bs → Bool → Nat → Bs → Bs
  | [], _, _, out => out
  | c :: r, hd, a, out =>
    if hd then (if c = 10 then blF bs r false a (out ++ [10]) else blF bs r true a (out ++ [c]))
    else if c = 32 ∨ c = 10 then blF bs r false (a + 1) (out ++ spB bs a) else blF bs r false a (out ++ [c])
theorem blF_hdr (bs : Bs) : ∀ (h r : Bs) (a : Nat) (out : Bs), (∀ c ∈ h, c ≠ 10) → blF bs (h ++ 10 :: r) true a out = blF bs r false a (out ++ h ++ [10])
  | [], r, a, out, _ => by rw [List.nil_append, blF]; simp
  | c :: h, r, a, out, hc => by
    rw [List.cons_append, blF]
    simp only [if_true]
    rw [if_neg (hc c (by simp)), blF_hdr bs h r a (out ++ [c]) (fun d hd => hc d (by simp [hd]))]
    simp
theorem blF_word (bs : Bs) : ∀ (w r : Bs) (a : Nat) (out : Bs), (∀ c ∈ w, ¬ (c = 32 ∨ c = 10)) → blF bs (w ++ r) false a out = blF bs r false a (out ++ w)
  | [], r, a, out, _ => by simp
  | c :: w, r, a, out, hc => by
    rw [List.cons_append, blF]
    simp only [Bool.false_eq_true, if_false]
    rw [if_neg (hc c (by simp)), blF_word bs w r a (out ++ [c]) (fun d hd => hc d (by simp [hd]))]
    simp
def bodyS (bs : Bs) : Nat → List Bs → Bs
  | _, [] => []
  | a, w :: r => w ++ spB bs a ++ bodyS bs (a + 1) r
def OkW (w : Bs) : Prop := w.all plainB = true ∧ w ≠ [] ∧ w ≠ [99]
theorem plain_no {w : Bs} (h : w.all plainB = true) : ∀ c ∈ w, ¬ (c = 32 ∨ c = 10) := by
  intro c hc h2
  have := List.all_eq_true.1 h c hc
  rcases h2 with rfl | rfl
  · exact absurd this (by decide)
  · exact absurd this (by decide)
theorem blF_one (bs : Bs) (w : Bs) (c : UInt8) (r : Bs) (a : Nat) (out : Bs) (hw : OkW w) (hc : c = 32 ∨ c = 10) : blF bs (w ++ c :: r) false a out = blF bs r false (a + 1) (out ++ w ++ spB bs a) := by
  rw [blF_word bs w (c :: r) a out (plain_no hw.1), blF]
  simp only [Bool.false_eq_true, if_false]
  rw [if_pos hc]
theorem okW_itoa (a : Int) : OkW (Lib.itoa a) := ⟨itoa_plain a, itoa_ne a, itoa_nc a⟩
theorem okW_48 : OkW [48] := ⟨rfl, by simp, by simp⟩
theorem bodyS_append (bs : Bs) : ∀ (l k : List Bs) (a : Nat), bodyS bs a (l ++ k) = bodyS bs a l ++ bodyS bs (a + l.length) k
  | [], k, a => by simp [bodyS]
  | w :: r, k, a => by
    rw [List.cons_append, bodyS, bodyS, bodyS_append bs r k (a + 1), List.length_cons, show a + 1 + r.length = a + (r.length + 1) by omega]
    simp
theorem blF_lits (bs : Bs) : ∀ (c : List Int) (r : Bs) (a : Nat) (out : Bs), blF bs ((c.flatMap fun x => Lib.itoa x ++ [32]) ++ r) false a out = blF bs r false (a + c.length) (out ++ bodyS bs a (c.map Lib.itoa))
  | [], r, a, out => by simp [bodyS]
  | x :: t, r, a, out => by
    rw [List.flatMap_cons, List.append_assoc, List.append_assoc]
    rw [show ∀ z : Bs, ([32] : Bs) ++ z = 32 :: z from fun _ => rfl, blF_one bs _ 32 _ a out (okW_itoa x) (.inl rfl), blF_lits bs t r (a + 1), List.map_cons, bodyS, List.length_cons, show a + 1 + t.length = a + (t.length + 1) by omega]
    simp
theorem blF_clause (bs : Bs) (c : List Int) (r : Bs) (a : Nat) (out : Bs) : blF bs (clauseT c ++ r) false a out = blF bs r false (a + (cw c).length) (out ++ bodyS bs a (cw c)) := by
  unfold clauseT cw
  rw [List.append_assoc, blF_lits]
  show blF bs ([48] ++ 10 :: r) false _ _ = _
  rw [blF_one bs [48] 10 r _ _ okW_48 (.inr rfl), bodyS_append]
  simp [bodyS]
  congr 1
theorem blF_cls (bs : Bs) : ∀ (l : List (List Int)) (a : Nat) (out : Bs), blF bs (l.flatMap clauseT) false a out = out ++ bodyS bs a (l.flatMap cw)
  | [], a, out => by simp [blF, bodyS]
  | c :: r, a, out => by
    rw [List.flatMap_cons, blF_clause, blF_cls bs r, List.flatMap_cons, bodyS_append]
    simp
theorem no10_itoa (a : Int) : ∀ c ∈ Lib.itoa a, c ≠ 10 := fun c hc e => plain_no (itoa_plain a) c hc (.inr e)
theorem blF_text (bs : Bs) (n : Int) (l : List (List Int)) : blF bs (textM n l) true 0 [] = headT n l.length ++ bodyS bs 0 (l.flatMap cw) := by
  have e : textM n l = ([112, 32, 99, 110, 102, 32] ++ Lib.itoa n ++ [32] ++ Lib.itoa (l.length : Int)) ++ 10 :: l.flatMap clauseT := by
    unfold textM headT; simp
  rw [e, blF_hdr, blF_cls]
  · unfold headT; simp
  · intro c hc e2
    subst e2
    simp only [List.mem_append, List.mem_cons, List.not_mem_nil, or_false] at hc
    rcases hc with ((hc | hc) | hc) | hc
    · exact absurd hc (by decide)
    · exact no10_itoa n 10 hc rfl
    · exact absurd hc (by decide)
    · exact no10_itoa _ 10 hc rfl
theorem Okl.body (bs : Bs) : ∀ (ws : List Bs) (a : Nat) {S : LS} {T : List Bs} {o : List (List Bs)}, Okl S T o → (∀ w ∈ ws, OkW w) → Okl ((bodyS bs a ws).foldl stp S) (T ++ ws) o
  | [], a, S, T, o, h, _ => by simpa [bodyS] using h
  | w :: r, a, S, T, o, h, hw => by
    obtain ⟨h1, h2, h3⟩ := hw w (by simp)
    rw [bodyS, List.foldl_append, List.foldl_append]
    have := Okl.body bs r (a + 1) ((h.word h1 h2).sep h2 h3 (spB_mem bs a)) (fun x hx => hw x (by simp [hx]))
    rw [List.append_assoc] at this
    exact this
theorem okW_words (l : List (List Int)) : ∀ w ∈ l.flatMap cw, OkW w := by
  intro w hw
  obtain ⟨c, _, hc⟩ := List.mem_flatMap.1 hw
  unfold cw at hc
  rcases List.mem_append.1 hc with hc | hc
  · obtain ⟨a, _, rfl⟩ := List.mem_map.1 hc
    exact okW_itoa a
  · rw [List.mem_singleton.1 hc]; exact okW_48
/-- What stands ahead of the header. -/
def pres : List Bs := [[], [99, 10], [10, 10], [32, 10, 99, 32, 53, 32, 53, 32, 53, 10]]
def preB (bs : Bs) : Bs := if bs = [] then [] else pres.getD ((bs.getD 0 0).toNat % 4) []
theorem preB_mem (bs : Bs) : preB bs ∈ pres := by
  unfold preB
  split
  · simp [pres]
  · have h : (bs.getD 0 0).toNat % 4 < 4 := Nat.mod_lt _ (by omega)
    rw [List.getD_eq_getElem?_getD, List.getElem?_eq_getElem (show (bs.getD 0 0).toNat % 4 < pres.length from h)]
    exact List.getElem_mem _
theorem pre_fold {p : Bs} (h : p ∈ pres) : ∃ P, p.foldl stp ⟨true, [], [], []⟩ = ⟨true, P, [], []⟩ ∧ ∀ l ∈ P, skp l = true := by
  unfold pres at h
  simp only [List.mem_cons, List.not_mem_nil, or_false] at h
  rcases h with rfl | rfl | rfl | rfl
  · exact ⟨[], rfl, by simp⟩
  · exact ⟨[[[99]]], rfl, by simp [skp]⟩
  · exact ⟨[[], []], rfl, by simp [skp]⟩
  · exact ⟨[[], [[99], [53], [53], [53]]], rfl, by simp [skp]⟩
theorem pre_len {p : Bs} (h : p ∈ pres) : p.length ≤ 10 := by
  unfold pres at h
  simp only [List.mem_cons, List.not_mem_nil, or_false] at h
  rcases h with rfl | rfl | rfl | rfl <;> decide
theorem parse_blank {n : Int} {l : List (List Int)} (h : FOk n l) (bs p : Bs) (hp : p ∈ pres) (hl : ¬ 65536 < (p ++ blF bs (textM n l) true 0 []).length) : parseM (p ++ blF bs (textM n l) true 0 []) = ((n, l), 0, 0) := by
  obtain ⟨P, hP, hs⟩ := pre_fold hp
  rw [parseM_F hl, blF_text, lr_start, List.foldl_append, hP, List.foldl_append, fold_hdr n l.length rfl rfl]
  have ho : Okl ⟨true, P ++ [hdrW n l.length], [], []⟩ [] (P ++ [hdrW n l.length]) := ⟨rfl, by simp, (fun _ => rfl), [], by simp, rfl⟩
  obtain ⟨o', h1, h2⟩ := (Okl.body bs (l.flatMap cw) 0 ho (okW_words l)).fin
  rw [h1, List.append_assoc]
  unfold parseF
  rw [runF_pre P _ 1 ps0 true hs]
  show (match runF (1 + P.length) ps0 true (hdrW n l.length :: o') with | .error (n, e) => _ | .ok (st, _) => _) = _
  rw [h.hdr, runF_toks _ _ _ _ (by rw [h2]; simpa using h.words)]
  rfl
theorem blF_len (bs : Bs) : ∀ (s : Bs) (hd : Bool) (a : Nat) (out : Bs), (blF bs s hd a out).length ≤ out.length + 14 * s.length
  | [], hd, a, out => by simp [blF]
  | c :: r, hd, a, out => by
    have h1 := fun hd' a' (o : Bs) => blF_len bs r hd' a' o
    rw [blF]
    split
    · split
      · refine Nat.le_trans (h1 _ _ _) ?_; simp; omega
      · refine Nat.le_trans (h1 _ _ _) ?_; simp; omega
    · split
      · refine Nat.le_trans (h1 _ _ _) ?_
        have := seps_len (spB_mem bs a)
        simp; omega
      · refine Nat.le_trans (h1 _ _ _) ?_; simp; omega
theorem fit_text2 {m : Int} {l : List (List Int)} (hm : 1 ≤ m ∧ m ≤ 12) (h : fitOk l = true) : (textM m (fitL m l)).length ≤ 2500 := by
  obtain ⟨h1, h2⟩ := fitOk_parts h
  have hl : (fitL m l).length ≤ 30 := by unfold fitL; rw [List.length_map]; exact h1
  unfold textM headT
  have g1 := itoa_lenB (k := 2) (a := m) (by omega) (by omega)
  have g2 := itoa_lenB (k := 2) (a := ((fitL m l).length : Int)) (by omega) (by omega)
  have g3 := flat_len clauseT 82 (fitL m l) fun c hc => by
    obtain ⟨x, hx, rfl⟩ := List.mem_map.1 hc
    have h3 := fitC_len m x
    have h4 := h2 x hx
    have h5 := clauseT_lenB (k := 2) (by omega) (fitC m x) (fun a ha => by have := fitC_mem hm ha; omega)
    omega
  have h6 : (fitL m l).length * 82 ≤ 30 * 82 := Nat.mul_le_mul_right _ hl
  simp only [List.length_append, List.length_cons, List.length_nil]
  omega

end Go.Proofs.YtfllhhgnflpagaaDoor
