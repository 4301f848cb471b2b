/-
  The text of a formula is read as the formula. Plain.
-/
import Derived.Test.YtfllhhgnflpagaaDoorDmX
import Derived.Test.YtfllhhgnflpagaaDoorDmG
namespace Go.Proofs.YtfllhhgnflpagaaDoor
set_option linter.unusedSimpArgs false
set_option linter.unusedVariables false
open Go.Lib

/-! ### numerals -/
theorem dig_val {d : Nat} (h : d < 10) : (UInt8.ofNat (48 + d)).toNat = 48 + d := by rw [UInt8.toNat_ofNat']; omega
theorem dec_range : ∀ n, ∀ c ∈ decDigits n, 48 ≤ c.toNat ∧ c.toNat ≤ 57 := by
  intro n
  induction n using Nat.strongRecOn with
  | _ n ih =>
    intro c hc
    rw [decDigits] at hc
    split at hc
    · rename_i h
      simp only [List.mem_singleton] at hc
      subst hc
      have := dig_val h
      omega
    · rename_i h
      rw [List.mem_append] at hc
      rcases hc with hc | hc
      · exact ih (n / 10) (by omega) c hc
      · simp only [List.mem_singleton] at hc
        subst hc
        have := dig_val (d := n % 10) (by omega)
        omega
theorem natOf_dec : ∀ n, natOf (decDigits n) = n := by
  intro n
  induction n using Nat.strongRecOn with
  | _ n ih =>
    rw [decDigits]
    split
    · rename_i h
      have := dig_val h
      show 0 * 10 + ((UInt8.ofNat (48 + n)).toNat - 48) = n
      omega
    · rename_i h
      rw [natOf_snoc, ih (n / 10) (by omega)]
      have := dig_val (d := n % 10) (by omega)
      omega
theorem dec_ne (n : Nat) : decDigits n ≠ [] := by
  rw [decDigits]; split <;> simp
theorem dec_head : ∀ n, (decDigits n).head? = some 48 → n = 0 := by
  intro n
  induction n using Nat.strongRecOn with
  | _ n ih =>
    intro h
    rw [decDigits] at h
    split at h
    · rename_i hn
      simp only [List.head?_cons, Option.some.injEq] at h
      have := dig_val hn
      rw [h] at this
      simp at this
      omega
    · rename_i hn
      rw [List.head?_append] at h
      cases hx : (decDigits (n / 10)).head? with
      | none => exact absurd (List.head?_eq_none_iff.1 hx) (dec_ne _)
      | some c =>
        rw [hx] at h
        simp at h
        subst h
        have := ih (n / 10) (by omega) hx
        omega
theorem dec_len1 {n : Nat} (h : 10 ≤ n) : 1 < (decDigits n).length := by
  rw [decDigits, dif_neg (by omega), List.length_append]
  have := List.length_pos_iff.2 (dec_ne (n / 10))
  simp; omega
theorem dec_dig (n : Nat) : (decDigits n).all isDig = true := by
  rw [List.all_eq_true]
  intro c hc
  have := dec_range n c hc
  simp [isDig, this]
theorem dec_minus (n : Nat) : (decDigits n).head? ≠ some 45 := by
  intro h
  have := dec_range n 45 (List.mem_of_head? h)
  simp at this
theorem okDig_itoa (a : Int) : okDig (itoa a) = true := by
  by_cases h : a < 0
  · have e : itoa a = 45 :: decDigits a.natAbs := by unfold itoa; rw [if_pos h]
    rw [e]
    unfold okDig
    rw [show digitsOf (45 :: decDigits a.natAbs) = decDigits a.natAbs from rfl, dec_dig]
    have h1 : (decDigits a.natAbs == []) = false := by simp [dec_ne]
    have h2 : (decDigits a.natAbs).head? ≠ some 48 := fun e => by have := dec_head _ e; omega
    have h3 : (45 :: decDigits a.natAbs == ([45, 48] : Bs)) = false := by
      rw [beq_eq_false_iff_ne]
      intro e
      have e2 : decDigits a.natAbs = [48] := by simpa using e
      rw [e2] at h2
      exact h2 rfl
    rw [h1, h3]
    simp [h2]
  · obtain ⟨n, rfl⟩ : ∃ n : Nat, a = n := ⟨a.toNat, by omega⟩
    have e : itoa (n : Int) = decDigits n := by unfold itoa; rw [if_neg h]; simp
    rw [e]
    unfold okDig
    rw [digitsOf_pos (dec_minus n), dec_dig]
    have h1 : (decDigits n == []) = false := by simp [dec_ne]
    have h3 : (decDigits n == ([45, 48] : Bs)) = false := by
      rw [beq_eq_false_iff_ne]
      intro e
      exact dec_minus n (by rw [e]; rfl)
    rw [h1, h3]
    by_cases h10 : n < 10
    · have : (decDigits n).length = 1 := by rw [decDigits, dif_pos h10]; rfl
      simp [this]
    · have h2 : (decDigits n).head? ≠ some 48 := fun e => by have := dec_head _ e; omega
      simp [h2]
theorem numM_itoa (a : Int) (h1 : -4611686018427387904 ≤ a) (h2 : a ≤ 4611686018427387904) : numM (itoa a) = some a := by
  unfold numM
  rw [if_pos (okDig_itoa a)]
  by_cases h : a < 0
  · have e : itoa a = 45 :: decDigits a.natAbs := by unfold itoa; rw [if_pos h]
    rw [e, show digitsOf (45 :: decDigits a.natAbs) = decDigits a.natAbs from rfl, natOf_dec, if_neg]
    · unfold capI
      rw [if_pos (by omega)]
      congr 1; omega
    · intro e2
      have := congrArg List.length e2
      simp at this
  · obtain ⟨n, rfl⟩ : ∃ n : Nat, a = n := ⟨a.toNat, by omega⟩
    have e : itoa (n : Int) = decDigits n := by unfold itoa; rw [if_neg h]; simp
    rw [e, if_pos (digitsOf_pos (dec_minus n)), digitsOf_pos (dec_minus n), natOf_dec]
    unfold capI
    rw [if_pos (by omega)]
theorem itoa_plain (a : Int) : (itoa a).all plainB = true := by
  have hd : ∀ n, (decDigits n).all plainB = true := fun n => by
    rw [List.all_eq_true]
    intro c hc
    have h := dec_range n c hc
    unfold plainB isBl
    have n1 : c ≠ 10 := fun e => by rw [e] at h; simp at h
    have n2 : c ≠ 32 := fun e => by rw [e] at h; simp at h
    have n3 : c ≠ 9 := fun e => by rw [e] at h; simp at h
    simp [n1, n2, n3]
  unfold itoa
  split
  · rw [List.all_cons, hd]; rfl
  · exact hd _
theorem itoa_ne (a : Int) : itoa a ≠ [] := by
  unfold itoa; split
  · simp
  · exact dec_ne _
theorem itoa_nc (a : Int) : itoa a ≠ [99] := by
  unfold itoa; split
  · simp
  · intro e
    have := dec_range a.toNat 99 (by rw [e]; simp)
    simp at this
theorem itoa_minus (a : Int) (h : 0 ≤ a) : (itoa a).head? ≠ some 45 := by
  unfold itoa; rw [if_neg (by omega)]; exact dec_minus _

/-! ### the header -/
def hdrW (n : Int) (k : Nat) : List Bs := [[112], [99, 110, 102], itoa n, itoa (k : Int)]
theorem headM_hdr {n : Int} {k : Nat} (h0 : 0 ≤ n) (h1 : n ≤ 1048576) (hk : k ≤ 1048576) : headM (hdrW n k) = (n, (k : Int), 0) := by
  unfold headM hdrW
  rw [if_pos ⟨rfl, rfl, rfl⟩]
  show (match numM (itoa n), numM (itoa (k : Int)) with | some v, some c => _ | _, _ => _) = _
  rw [numM_itoa n (by omega) (by omega), numM_itoa (k : Int) (by omega) (by omega)]
  show (if (itoa n).head? = some 45 ∨ (itoa (k : Int)).head? = some 45 then _ else _) = _
  rw [if_neg (by rintro (h | h); exact itoa_minus n h0 h; exact itoa_minus (k : Int) (by omega) h), if_neg (by omega), if_neg (by omega)]
theorem fold_hdr {S : LS} (n : Int) (k : Nat) (hl : S.line = []) (hw : S.word = []) : (headT n k).foldl stp S = ⟨true, S.out ++ [hdrW n k], [], []⟩ := by
  unfold headT
  obtain ⟨nl, out, line, word⟩ := S
  simp only at hl hw
  subst hl hw
  rw [List.foldl_append, List.foldl_append, List.foldl_append, List.foldl_append]
  have e1 : ([112, 32, 99, 110, 102, 32] : Bs).foldl stp ⟨nl, out, [], []⟩ = ⟨false, out, [[112], [99, 110, 102]], []⟩ := rfl
  rw [e1, fold_plain _ _ (itoa_plain n) (itoa_ne n)]
  have e2 : ∀ (o : List (List Bs)) (l : List Bs) (w : Bs), w ≠ [] → ([32] : Bs).foldl stp ⟨false, o, l, w⟩ = ⟨false, o, l ++ [w], []⟩ := fun o l w hw => by
    show stp _ 32 = _
    unfold stp
    rw [if_neg (by decide), if_pos (by rfl), flush_ne hw]
  simp only [List.nil_append]
  rw [e2 _ _ _ (itoa_ne n), fold_plain _ _ (itoa_plain _) (itoa_ne _)]
  show stp _ 10 = _
  rw [stp_nl, List.nil_append, flush_ne (itoa_ne _)]
  rfl
/-! ### clauses -/
def cw (c : List Int) : List Bs := c.map itoa ++ [[48]]
theorem fold_lits : ∀ (c : List Int) (nl : Bool) (out : List (List Bs)) (line : List Bs), (c.flatMap fun a => itoa a ++ [32]).foldl stp ⟨nl, out, line, []⟩ = ⟨if c = [] then nl else false, out, line ++ c.map itoa, []⟩
  | [], nl, out, line => by simp
  | a :: r, nl, out, line => by
    rw [List.flatMap_cons, List.foldl_append, List.foldl_append, fold_plain _ _ (itoa_plain a) (itoa_ne a)]
    have e2 : ([32] : Bs).foldl stp ⟨false, out, line, [] ++ itoa a⟩ = ⟨false, out, line ++ [itoa a], []⟩ := by
      show stp _ 32 = _
      unfold stp
      rw [if_neg (by decide), if_pos (by rfl), List.nil_append, flush_ne (itoa_ne a)]
    rw [e2, fold_lits r]
    simp
theorem fold_clause (c : List Int) (nl : Bool) (out : List (List Bs)) : (clauseT c).foldl stp ⟨nl, out, [], []⟩ = ⟨true, out ++ [cw c], [], []⟩ := by
  unfold clauseT cw
  rw [List.foldl_append, fold_lits]
  generalize (if c = [] then nl else false) = b
  show stp (stp _ 48) 10 = _
  rw [stp_plain (S := ⟨b, out, [] ++ c.map itoa, []⟩) (c := 48) rfl, stp_nl]
  simp [flushB]
theorem fold_cls : ∀ (l : List (List Int)) (out : List (List Bs)), (l.flatMap clauseT).foldl stp ⟨true, out, [], []⟩ = ⟨true, out ++ l.map cw, [], []⟩
  | [], out => by simp
  | c :: r, out => by rw [List.flatMap_cons, List.foldl_append, fold_clause, fold_cls r]; simp
theorem lr_text (n : Int) (l : List (List Int)) (t : Bs) : lr (textM n l ++ t) true [] [] [] = finS (t.foldl stp ⟨true, hdrW n l.length :: l.map cw, [], []⟩) := by
  rw [lr_start]
  unfold textM
  rw [List.append_assoc, List.foldl_append, fold_hdr n l.length rfl rfl, List.foldl_append, fold_cls]
  rfl

/-! ### words read -/
def LitsOk (n : Int) (c : List Int) : Prop := c.length ≤ 4096 ∧ ∀ a ∈ c, a ≠ 0 ∧ (a.natAbs : Int) ≤ n
theorem step_lit {st : PS} {a : Int} (hl : 0 < st.left) (hn : st.vars ≤ 1048576) (ha : a ≠ 0 ∧ (a.natAbs : Int) ≤ st.vars) (hc : st.c.length < 4096) : stepP st [itoa a] = .ok { st with c := st.c ++ [a] } := by
  have hn2 := numM_itoa a (by omega) (by omega)
  exact step_push hl hn2 (by omega) ha.1 (by omega)
theorem numM_48 : numM [48] = some 0 := rfl
theorem stepW_lits : ∀ (c : List Int) (st : PS) (r : List Bs), 0 < st.left → st.vars ≤ 1048576 → (∀ a ∈ c, a ≠ 0 ∧ (a.natAbs : Int) ≤ st.vars) → st.c.length + c.length ≤ 4096 → stepW st (c.map itoa ++ r) = stepW { st with c := st.c ++ c } r
  | [], st, r, _, _, _, _ => by simp
  | a :: t, st, r, hl, hn, ha, hc => by
    rw [List.map_cons, List.cons_append, stepW_cons, step_lit hl hn (ha a (by simp)) (by simp at hc; omega)]
    simp only
    rw [stepW_lits t { st with c := st.c ++ [a] } r hl hn (fun b hb => ha b (by simp [hb])) (by simp at hc ⊢; omega)]
    simp
theorem stepW_clause {c : List Int} {st : PS} {r : List Bs} (hc0 : st.c = []) (hl : 0 < st.left) (h0 : 0 ≤ st.vars) (hn : st.vars ≤ 1048576) (hc : LitsOk st.vars c) : stepW st (cw c ++ r) = stepW { st with cls := st.cls ++ [c], left := st.left - 1 } r := by
  unfold cw
  rw [List.append_assoc, stepW_lits c st _ hl hn hc.2 (by rw [hc0]; simpa using hc.1), hc0]
  show stepW _ ([48] :: r) = _
  rw [stepW_cons, step_zero (by exact hl) numM_48 (by exact h0)]
  obtain ⟨a, b, d, e⟩ := st
  simp only at hc0
  subst hc0
  rfl
theorem stepW_cls : ∀ (l : List (List Int)) (st : PS) (r : List Bs), st.c = [] → (l.length : Int) ≤ st.left → 0 ≤ st.vars → st.vars ≤ 1048576 → (∀ c ∈ l, LitsOk st.vars c) → stepW st (l.flatMap cw ++ r) = stepW { st with cls := st.cls ++ l, left := st.left - l.length } r
  | [], st, r, _, _, _, _, _ => by simp
  | c :: t, st, r, hc0, hl, h0, hn, hc => by
    rw [List.flatMap_cons, List.append_assoc, stepW_clause hc0 (by simp at hl; omega) h0 hn (hc c (by simp))]
    rw [stepW_cls t { st with cls := st.cls ++ [c], left := st.left - 1 } r hc0 (by simp at hl ⊢; omega) h0 hn (fun d hd => hc d (by simp [hd]))]
    simp only [List.append_assoc, List.cons_append, List.nil_append, List.length_cons]
    congr 2
    omega
theorem toks_cw (l : List (List Int)) : toksL (l.map cw) = l.flatMap cw := by
  induction l with
  | nil => rfl
  | cons c r ih =>
    rw [List.map_cons, List.flatMap_cons, ← ih]
    rw [show cw c :: r.map cw = [cw c] ++ r.map cw from rfl, toksL_append, toksL_line]
    unfold cw
    cases c with
    | nil => simp
    | cons a t => simp [itoa_nc]
theorem hdr_skp (n : Int) (k : Nat) : skp (hdrW n k) = false := rfl
/-- A valid formula, and what the reader makes of its header and clauses. -/
structure FOk (n : Int) (l : List (List Int)) : Prop where
  n0 : 0 ≤ n
  n1 : n ≤ 1048576
  len : l.length ≤ 1048576
  lits : ∀ c ∈ l, LitsOk n c
theorem FOk.of_check {n : Int} {l : List (List Int)} (h : checkM n l = 0) : FOk n l := by
  obtain ⟨h0, h1, h2, h3⟩ := checkM_ok h
  exact ⟨h0, h1, h2, fun c hc => litM_ok2 (litsM_ok2 h3 c hc)⟩
theorem FOk.hdr {n : Int} {l : List (List Int)} (h : FOk n l) (k : Nat) (r : List (List Bs)) : runF k ps0 true (hdrW n l.length :: r) = runF (k + 1) ⟨l.length, n, [], []⟩ false r := by
  rw [runF_head (hdr_skp n _), step_head (by decide) (headM_hdr h.n0 h.n1 h.len)]
  rfl
theorem FOk.words {n : Int} {l : List (List Int)} (h : FOk n l) : stepW ⟨l.length, n, [], []⟩ (l.flatMap cw) = .ok ⟨0, n, l, []⟩ := by
  have := stepW_cls l ⟨l.length, n, [], []⟩ [] rfl (by simp) h.n0 h.n1 h.lits
  rw [List.append_nil] at this
  rw [this]
  show Except.ok _ = _
  simp
theorem FOk.all {n : Int} {l : List (List Int)} (h : FOk n l) (k : Nat) : runF k ps0 true (hdrW n l.length :: l.map cw) = .ok (⟨0, n, l, []⟩, false) := by
  rw [h.hdr]
  exact runF_toks _ _ _ _ (by rw [toks_cw]; exact h.words)
/-- A formula is parsed from its text. -/
theorem FOk.back {n : Int} {l : List (List Int)} (h : FOk n l) (hl : ¬ 65536 < (textM n l).length) : parseM (textM n l) = ((n, l), 0, 0) := by
  have := lr_text n l []
  rw [List.append_nil] at this
  rw [parseM_F hl, this]
  unfold parseF
  show (match runF 1 ps0 true (hdrW n l.length :: l.map cw) with | .error (n, e) => _ | .ok (st, _) => _) = _
  rw [h.all]
  rfl
theorem text_inj {n m : Int} {l k : List (List Int)} (h1 : FOk n l) (h2 : FOk m k) (hl : ¬ 65536 < (textM n l).length) (he : textM n l = textM m k) : n = m ∧ l = k := by
  have a := h1.back hl
  have b := h2.back (he ▸ hl)
  rw [he, b] at a
  simp at a
  exact ⟨a.1.symm, a.2.symm⟩
/-! ### a text without its last word, and with one more -/
theorem parse_less {n : Int} {l : List (List Int)} {c : List Int} (h : FOk n (l ++ [c])) (hl : ¬ 65536 < (textM n (l ++ [c])).length) :
    ∃ k : Nat, parseM ((textM n (l ++ [c])).take ((textM n (l ++ [c])).length - 2)) = ((0, []), (k : Int), 4) ∧ (l.length + 2 ≤ k ∧ k ≤ l.length + 3) := by
  have e1 : textM n (l ++ [c]) = (headT n (l.length + 1) ++ l.flatMap clauseT ++ c.flatMap fun a => itoa a ++ [32]) ++ [48, 10] := by
    unfold textM
    rw [List.length_append, List.flatMap_append]
    simp [clauseT]
  have e2 : (textM n (l ++ [c])).take ((textM n (l ++ [c])).length - 2) = headT n (l.length + 1) ++ l.flatMap clauseT ++ c.flatMap fun a => itoa a ++ [32] := by
    rw [e1, List.take_left']
    simp
    omega
  have e3 : ¬ 65536 < ((textM n (l ++ [c])).take ((textM n (l ++ [c])).length - 2)).length := by rw [List.length_take]; omega
  rw [parseM_F e3, e2, lr_start, List.foldl_append, List.foldl_append, fold_hdr n _ rfl rfl, fold_cls, fold_lits]
  have hlen : ((l ++ [c]).length : Int) = (l.length : Int) + 1 := by simp
  have hh := h.hdr 1
  rw [List.length_append] at hh
  have hw := stepW_cls l ⟨(l.length + 1 : Nat), n, [], []⟩ (c.map itoa) rfl (by show ((l.length : Nat) : Int) ≤ ((l.length + 1 : Nat) : Int); omega) h.n0 h.n1 (fun d hd => h.lits d (by simp [hd]))
  have hcl := h.lits c (by simp)
  have hw2 := stepW_lits c ⟨((l.length + 1 : Nat) : Int) - l.length, n, [] ++ l, []⟩ [] (by show (0 : Int) < ((l.length + 1 : Nat) : Int) - l.length; omega) h.n1 hcl.2 (by simpa using hcl.1)
  rw [List.append_nil] at hw2
  rw [hw2] at hw
  have hw3 : stepW ⟨(l.length + 1 : Nat), n, [], []⟩ (l.flatMap cw ++ c.map itoa) = .ok ⟨((l.length + 1 : Nat) : Int) - l.length, n, [] ++ l, [] ++ c⟩ := hw
  by_cases hc : c = []
  · subst hc
    refine ⟨l.length + 2, ?_, by omega, by omega⟩
    unfold parseF
    have e : finS ⟨if ([] : List Int) = [] then true else false, [] ++ [hdrW n (l.length + 1)] ++ l.map cw, [] ++ ([] : List Int).map itoa, []⟩ = hdrW n (l.length + 1) :: l.map cw := rfl
    rw [e]
    rw [show hdrW n (l.length + 1) = hdrW n (l.length + [([] : List Int)].length) from rfl, hh, runF_toks _ _ _ _ (by rw [toks_cw]; simpa using hw3)]
    show (if ((l.length + 1 : Nat) : Int) - l.length ≠ 0 then _ else _) = _
    rw [if_pos (by omega)]
    simp; omega
  · refine ⟨l.length + 3, ?_, by omega, by omega⟩
    unfold parseF
    have e : finS ⟨if c = [] then true else false, [] ++ [hdrW n (l.length + 1)] ++ l.map cw, [] ++ c.map itoa, []⟩ = hdrW n (l.length + 1) :: (l.map cw ++ [c.map itoa]) := by
      unfold finS
      rw [if_neg hc]
      simp [flushB]
    rw [e]
    have ht : toksL (l.map cw ++ [c.map itoa]) = l.flatMap cw ++ c.map itoa := by
      rw [toksL_append, toks_cw, toksL_line]
      cases c with
      | nil => simp
      | cons a t => simp [itoa_nc]
    rw [show hdrW n (l.length + 1) = hdrW n (l.length + [c].length) from rfl, hh, runF_toks _ _ _ _ (by rw [ht]; exact hw3)]
    show (if ((l.length + 1 : Nat) : Int) - l.length ≠ 0 then _ else _) = _
    rw [if_pos (by omega)]
    simp; omega
theorem parse_more {n : Int} {l : List (List Int)} (h : FOk n l) {b : UInt8} (hb : b = 48 ∨ b = 49) (hl : ¬ 65535 < (textM n l).length) : parseM (textM n l ++ [b]) = ((0, []), ((l.length + 2 : Nat) : Int), 4) := by
  have hp : plainB b = true := by rcases hb with rfl | rfl <;> rfl
  have hs : skp [[b]] = false := by rcases hb with rfl | rfl <;> rfl
  rw [parseM_F (by rw [List.length_append]; simp; omega), lr_text]
  have e : finS (([b] : Bs).foldl stp ⟨true, hdrW n l.length :: l.map cw, [], []⟩) = (hdrW n l.length :: l.map cw) ++ [[[b]]] := by
    show finS (stp _ b) = _
    rw [stp_plain hp]
    simp [finS, flushB]
  rw [e]
  unfold parseF
  rw [runF_append _ _ _ _ _ _ _ (h.all 1), runF_words hs, stepW_cons, step_left rfl]
  show ((0, []), (((1 + (hdrW n l.length :: l.map cw).length : Nat)) : Int), (4 : Int)) = _
  simp; omega

end Go.Proofs.YtfllhhgnflpagaaDoor
