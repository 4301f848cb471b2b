/-
  Words made of bytes, joined by blanks, and a byte that stands in no text: where the text is refused. No program in sight.
-/
import Derived.Test.YtgldgkaigomceaaDoorTkN
import Derived.Lib.Join
namespace Go.Proofs.YtgldgkaigomceaaDoor
set_option linter.unusedSimpArgs false
set_option linter.unusedVariables false

def pcN (n : Nat) : Nat := if 33 + n % 94 = 35 then 36 else 33 + n % 94
/-- The word that a byte makes. -/
def pw (c : UInt8) : Bs := List.replicate (1 + c.toNat / 94) (UInt8.ofNat (pcN c.toNat))
def plainW (b : Bs) (most : Nat) : List Bs := (b.take most).map pw
theorem pcN_bd (n : Nat) : 33 ≤ pcN n ∧ pcN n ≤ 126 ∧ pcN n ≠ 35 := by unfold pcN; split <;> omega
theorem pw_len (c : UInt8) : 1 ≤ (pw c).length ∧ (pw c).length ≤ 3 := by
  have := c.toNat_lt; simp [pw]; omega
theorem plainW_len (b : Bs) (m : Nat) : (plainW b m).length ≤ m := by simp [plainW]; omega
theorem plainW_snoc (b : Bs) (k : Nat) (h : k < b.length) : plainW b (k + 1) = plainW b k ++ [pw b[k]] := by
  unfold plainW
  rw [List.take_add_one, List.getElem?_eq_getElem h, List.map_append]; rfl
theorem plainW_all (b : Bs) (k m : Nat) (hk : b.length ≤ k) (hm : b.length ≤ m) : plainW b k = plainW b m := by
  unfold plainW; rw [List.take_of_length_le hk, List.take_of_length_le hm]

/-- A byte that stands in a word, or a blank. -/
def okB (c : UInt8) : Bool := decide (32 ≤ c.toNat) && decide (c.toNat ≤ 126) && decide (c.toNat ≠ 35)
theorem okB_pw (c : UInt8) : ∀ d ∈ pw c, okB d = true := by
  intro d hd
  obtain rfl := List.eq_of_mem_replicate hd
  have h := pcN_bd c.toNat
  have : (UInt8.ofNat (pcN c.toNat)).toNat = pcN c.toNat := by
    rw [UInt8.toNat_ofNat']; omega
  simp [okB, this]; omega
theorem join2 (x y : Bs) (r : List Bs) (sep : Bs) : Lib.join (x :: y :: r) sep = x ++ sep ++ Lib.join (y :: r) sep := by
  rw [Lib.join_cons, Lib.join_cons]; simp [Lib.joinTail]
theorem ok_join : ∀ (l : List Bs), (∀ x ∈ l, ∀ d ∈ x, okB d = true) → ∀ d ∈ Lib.join l [32], okB d = true
  | [], _, d, hd => by simp [Lib.join] at hd
  | [x], h, d, hd => by
    rw [Lib.join_one] at hd
    exact h x (by simp) d hd
  | x :: y :: r, h, d, hd => by
    rw [join2] at hd
    simp only [List.mem_append] at hd
    rcases hd with (hd | hd) | hd
    · exact h x (by simp) d hd
    · simp at hd; subst hd; decide
    · exact ok_join (y :: r) (fun z hz => h z (by simp at hz ⊢; exact .inr hz)) d hd
theorem join_len : ∀ (l : List Bs), (∀ x ∈ l, x.length ≤ 3) → (Lib.join l [32]).length ≤ 4 * l.length
  | [], _ => by simp [Lib.join]
  | [x], h => by have := h x (by simp); rw [Lib.join_one]; simp; omega
  | x :: y :: r, h => by
    have h1 := h x (by simp)
    have h2 := join_len (y :: r) (fun z hz => h z (by simp at hz ⊢; exact .inr hz))
    rw [join2]
    simp only [List.length_append, List.length_cons, List.length_nil] at h2 ⊢
    omega

theorem okB_bd {c : UInt8} (h : okB c = true) : 32 ≤ c.toNat ∧ c.toNat ≤ 126 ∧ c.toNat ≠ 35 := by
  simp [okB] at h; omega
theorem okB_bad {c : UInt8} (h : okB c = true) : badB c = false ∧ c ≠ 35 ∧ c ≠ 10 := by
  have := okB_bd h
  refine ⟨?_, ?_, ?_⟩
  · simp only [badB, Bool.or_eq_false_iff, decide_eq_false_iff_not, UInt8.lt_iff_toNat_lt]
    refine ⟨?_, ?_⟩
    · show ¬ c.toNat < 32; omega
    · show ¬ 126 < c.toNat; omega
  · rintro rfl; simp at this
  · rintro rfl; simp at this
theorem bad_of {c : UInt8} (h : c.toNat < 32 ∨ 126 < c.toNat) (h9 : c.toNat ≠ 9) (h10 : c.toNat ≠ 10) : badB c = true ∧ sepB c = false ∧ c ≠ 35 ∧ c ≠ 10 := by
  refine ⟨?_, ?_, ?_, ?_⟩
  · simp only [badB, Bool.or_eq_true, decide_eq_true_eq, UInt8.lt_iff_toNat_lt]
    rcases h with h | h
    · exact .inl h
    · exact .inr h
  · have h32 : c ≠ 32 := by rintro rfl; simp at h
    have h9' : c ≠ 9 := by rintro rfl; simp at h9
    simp [sepB, h32, h9']
  · rintro rfl; simp at h
  · rintro rfl; simp at h10

theorem lt_cons (n : Nat) (c : UInt8) (r : Bs) (i : Nat) (cur : Option (Bs × Nat)) (acc : List Wd) : lt n (c :: r) i cur acc = if c = 35 then .ok (flushW n cur acc) else if sepB c = true then lt n r (i + 1) none (flushW n cur acc) else if badB c = true then .error i else lt n r (i + 1) (grow c i cur) acc := rfl
theorem lt_ok (n : Nat) : ∀ (s : Bs) (r : Bs) (i : Nat) (cur : Option (Bs × Nat)) (acc : List Wd), (∀ d ∈ s, okB d = true) → ∃ cur' acc', lt n (s ++ r) i cur acc = lt n r (i + s.length) cur' acc'
  | [], r, i, cur, acc, _ => ⟨cur, acc, rfl⟩
  | d :: s, r, i, cur, acc, h => by
    obtain ⟨h1, h2, h3⟩ := okB_bad (h d (by simp))
    have hs := fun e he => h e (List.mem_cons_of_mem d he)
    rw [List.cons_append, lt_cons, if_neg h2]
    by_cases h4 : sepB d = true
    · rw [if_pos h4]
      obtain ⟨c', a', e⟩ := lt_ok n s r (i + 1) none (flushW n cur acc) hs
      exact ⟨c', a', by rw [e, List.length_cons, show i + 1 + s.length = i + (s.length + 1) by omega]⟩
    · rw [if_neg h4, if_neg (by rw [h1]; decide)]
      obtain ⟨c', a', e⟩ := lt_ok n s r (i + 1) (grow d i cur) acc hs
      exact ⟨c', a', by rw [e, List.length_cons, show i + 1 + s.length = i + (s.length + 1) by omega]⟩
theorem lt_bad (n : Nat) (c : UInt8) (r : Bs) (i : Nat) (cur : Option (Bs × Nat)) (acc : List Wd) (h : badB c = true) (hs : sepB c = false) (h35 : c ≠ 35) : lt n (c :: r) i cur acc = .error i := by
  rw [lt_cons, if_neg h35, if_neg (by rw [hs]; decide), if_pos h]
theorem lt_hash (n : Nat) (r : Bs) (i : Nat) (cur : Option (Bs × Nat)) (acc : List Wd) : lt n (35 :: r) i cur acc = .ok (flushW n cur acc) := by
  rw [lt_cons, if_pos rfl]
theorem cutNL_none : ∀ s : Bs, (∀ d ∈ s, d ≠ 10) → cutNL s = (s, [], false)
  | [], _ => rfl
  | c :: r, h => by
    unfold cutNL
    rw [if_neg (h c (by simp)), cutNL_none r fun d hd => h d (by simp [hd])]
theorem cutNL_at : ∀ (s r : Bs), (∀ d ∈ s, d ≠ 10) → cutNL (s ++ 10 :: r) = (s, r, true)
  | [], r, _ => by simp [cutNL]
  | c :: s, r, h => by
    rw [List.cons_append]
    unfold cutNL
    rw [if_neg (h c (by simp)), cutNL_at s r fun d hd => h d (by simp [hd])]

theorem tok_x (t : Bs) : tok (120 :: 10 :: t) = ls 2 t [[([120], 1, 1)]] := by
  have h := cutNL_at [120] t (by simp)
  simp only [List.cons_append, List.nil_append] at h
  unfold tok
  rw [ls, h]
  rfl

/-- A byte that stands in no text is refused where it is. -/
theorem tok_bad (s r : Bs) (c : UInt8) (hs : ∀ d ∈ s, okB d = true) (hr : ∀ d ∈ r, okB d = true) (h : c.toNat < 32 ∨ 126 < c.toNat) (h9 : c.toNat ≠ 9) (h10 : c.toNat ≠ 10) : tok (120 :: 10 :: (s ++ c :: r)) = .error (2, s.length + 1) := by
  obtain ⟨b1, b2, b3, b4⟩ := bad_of h h9 h10
  rw [tok_x]
  unfold ls
  have hc := cutNL_none (s ++ c :: r) (by
    intro d hd
    rcases List.mem_append.1 hd with hd | hd
    · exact (okB_bad (hs d hd)).2.2
    · rcases List.mem_cons.1 hd with rfl | hd
      · exact b4
      · exact (okB_bad (hr d hd)).2.2)
  obtain ⟨cur, acc, e⟩ := lt_ok 2 s (c :: r) 0 none [] hs
  rw [lt_bad 2 c r _ cur acc b1 b2 b3] at e
  rw [hc]
  simp only [e, Nat.zero_add]
/-- In a comment it is not. -/
theorem tok_com (s : Bs) (c : UInt8) (hs : ∀ d ∈ s, okB d = true) (h10 : c.toNat ≠ 10) : ∃ o, tok (120 :: 10 :: (s ++ 35 :: c :: 10 :: [121])) = .ok o := by
  rw [tok_x]
  unfold ls
  have hc := cutNL_at (s ++ [35, c]) [121] (by
    intro d hd
    rcases List.mem_append.1 hd with hd | hd
    · exact (okB_bad (hs d hd)).2.2
    · simp at hd
      rcases hd with rfl | rfl
      · decide
      · rintro rfl; simp at h10)
  rw [List.append_assoc] at hc
  obtain ⟨cur, acc, e⟩ := lt_ok 2 s [35, c] 0 none [] hs
  rw [lt_hash] at e
  simp only [List.cons_append, List.nil_append] at hc
  rw [hc]
  simp only [e]
  generalize addL _ _ = q
  refine ⟨addL q [([121], 3, 1)], ?_⟩
  rw [dif_pos trivial]
  unfold ls
  simp [cutNL, lt, sepB, badB, grow, flushW]

theorem ok_text (b : Bs) (m : Nat) : ∀ d ∈ Lib.join (plainW b m) [32], okB d = true := by
  refine ok_join _ fun x hx d hd => ?_
  simp only [plainW, List.mem_map] at hx
  obtain ⟨c, _, rfl⟩ := hx
  exact okB_pw c d hd
theorem text_len (b : Bs) (m : Nat) : (Lib.join (plainW b m) [32]).length ≤ 4 * m := by
  refine Nat.le_trans (join_len _ fun x hx => ?_) (by have := plainW_len b m; omega)
  simp only [plainW, List.mem_map] at hx
  obtain ⟨c, _, rfl⟩ := hx
  exact (pw_len c).2
end Go.Proofs.YtgldgkaigomceaaDoor
