/-
  Words of a line by strings.FieldsFunc; Trim and Atoi at digits. No program in sight.
-/
import Derived.Test.YtfllhhgnflpagaaDoorDmP
namespace Go.Proofs.YtfllhhgnflpagaaDoor
set_option linter.unusedSimpArgs false
set_option linter.unusedVariables false
open Go.Lib

def blP (r : Nat) : Bool := r == 32 || r == 9
theorem blP_byte (b : UInt8) : blP b.toNat = isBl b := by
  unfold blP isBl
  have e : ∀ k : Nat, k < 256 → (b.toNat == k) = (b == UInt8.ofNat k) := fun k hk => by
    rw [Bool.eq_iff_iff, beq_iff_eq, beq_iff_eq]
    constructor
    · intro h; subst h; simp
    · intro h; subst h; simp; omega
  rw [e 32 (by omega), e 9 (by omega)]
  rfl
theorem isBl_big {b : UInt8} (h : 128 ≤ b.toNat) : isBl b = false := by
  rw [← blP_byte]; unfold blP; simp; omega
theorem blP_big {r : Nat} (h : 128 ≤ r) : blP r = false := by unfold blP; simp; omega

theorem decodeN_low (n b0 b1 b2 b3 : Nat) (h : b0 < 128) : decodeN n b0 b1 b2 b3 = (b0, 1) := by unfold decodeN; rw [if_pos h]

theorem dec_blank (s : ByteArray) (pos : Nat) (h : pos < s.size) :
    1 ≤ (Utf8.decode s pos).2 ∧ pos + (Utf8.decode s pos).2 ≤ s.size ∧
    (blP (Utf8.decode s pos).1 = true → (Utf8.decode s pos).2 = 1 ∧ ∀ b ∈ (s.data.toList.drop pos).take 1, isBl b = true) ∧
    (blP (Utf8.decode s pos).1 = false → ∀ b ∈ (s.data.toList.drop pos).take (Utf8.decode s pos).2, isBl b = false) := by
  have hsz : s.data.toList.length = s.size := (size_eq s).symm
  have hw := width_pos s pos
  have hwn : pos + (Utf8.decode s pos).2 ≤ s.size := by
    have := decodeN_le_n' (s.size - pos) (s.get! pos).toNat (s.get! (pos + 1)).toNat (s.get! (pos + 2)).toNat (s.get! (pos + 3)).toNat (by omega)
    rw [← decode_at] at this
    omega
  refine ⟨hw, hwn, ?_⟩
  clear hw hwn
  have hd : 0 < (s.data.toList.drop pos).length := by rw [List.length_drop]; omega
  have hg : ∀ i, (s.data.toList.drop pos).getD i 0 = s.data.toList.getD (pos + i) 0 := fun i => by simp [List.getD, List.getElem?_drop]
  have g0 := hg 0; have g1 := hg 1; have g2 := hg 2; have g3 := hg 3
  simp only [Nat.add_zero] at g0
  have hl : (s.data.toList.drop pos).length = s.data.toList.length - pos := List.length_drop ..
  rw [decode_N]
  rw [← hl, ← g0, ← g1, ← g2, ← g3]
  generalize s.data.toList.drop pos = L at *
  clear g0 g1 g2 g3 hg hl hsz
  have r1 : ∀ p : UInt8 → Prop, p (L.getD 0 0) → ∀ b ∈ L.take 1, p b := fun p h b hb => by
    rw [takeA L hd] at hb; simp at hb; subst hb; exact h
  by_cases hlow : (L.getD 0 0).toNat < 128
  · rw [decodeN_low _ _ _ _ _ hlow]
    refine ⟨fun hb => ⟨rfl, r1 (fun b => isBl b = true) (by rw [← blP_byte]; exact hb)⟩, fun hb => r1 (fun b => isBl b = false) (by rw [← blP_byte]; exact hb)⟩
  · rcases decodeN_shape L.length (L.getD 0 0).toNat (L.getD 1 0).toNat (L.getD 2 0).toNat (L.getD 3 0).toNat with ⟨c, _⟩ | ⟨c, hn, c1, c2, e⟩ | ⟨c, hn, c1, c2, c3, _, e⟩ | ⟨c, hn, c1, c2, c3, c4, _, e⟩ | e
    · exact absurd c hlow
    · rw [e]
      refine ⟨fun hb => (by rw [blP_big (by simpa using c2)] at hb; cases hb), fun _ b hb => ?_⟩
      rw [takeB L hn] at hb
      simp only [List.mem_cons, List.not_mem_nil, or_false] at hb
      rcases hb with rfl | rfl
      · exact isBl_big (by omega)
      · exact isBl_big (by omega)
    · rw [e]
      refine ⟨fun hb => (by rw [blP_big (by simp only; omega)] at hb; cases hb), fun _ b hb => ?_⟩
      rw [takeC L hn] at hb
      simp only [List.mem_cons, List.not_mem_nil, or_false] at hb
      rcases hb with rfl | rfl | rfl
      · exact isBl_big (by omega)
      · exact isBl_big (by omega)
      · exact isBl_big (by omega)
    · rw [e]
      refine ⟨fun hb => (by rw [blP_big (by simp only; omega)] at hb; cases hb), fun _ b hb => ?_⟩
      rw [takeD L hn] at hb
      simp only [List.mem_cons, List.not_mem_nil, or_false] at hb
      rcases hb with rfl | rfl | rfl | rfl
      · exact isBl_big (by omega)
      · exact isBl_big (by omega)
      · exact isBl_big (by omega)
      · exact isBl_big (by omega)
    · rw [e]
      exact ⟨fun hb => (by rw [blP_big (by omega)] at hb; cases hb), fun _ => r1 (fun b => isBl b = false) (isBl_big (by omega))⟩

theorem fldF_take (L : Bs) (k : Nat) (cur : Bs) (acc : List Bs) (h : ∀ b ∈ L.take k, isBl b = false) : fldF L cur acc = fldF (L.drop k) (cur ++ L.take k) acc := by
  conv => lhs; rw [← List.take_append_drop k L]
  exact fldF_skip _ _ _ _ h
theorem fldF_blank {L : Bs} (cur : Bs) (acc : List Bs) (hL : 0 < L.length) (h : ∀ b ∈ L.take 1, isBl b = true) : fldF L cur acc = fldF (L.drop 1) [] (flushB cur acc) := by
  cases L with
  | nil => simp at hL
  | cons b t =>
    have := h b (by simp)
    rw [fldF, this]
    simp

theorem spansP_eq (s : ByteArray) : ∀ (f pos : Nat) (st : Option Nat) (acc : List (Nat × Nat)), s.size ≤ pos + f → pos ≤ s.size → (∀ a, st = some a → a < pos) →
    fldF (s.data.toList.drop pos) (openPiece s.data.toList st pos) (acc.map fun p => pieceU s.data.toList p.1 p.2) = (closeSpans s (spansFromP blP s f pos st acc)).map (fun p => pieceU s.data.toList p.1 p.2)
  | 0, pos, st, acc, h, hp, hst => by
    obtain rfl : pos = s.size := by omega
    have hd : s.data.toList.drop s.size = [] := List.drop_eq_nil_of_le (by rw [← size_eq]; exact Nat.le_refl _)
    rw [hd]
    cases st with
    | none => simp [spansFromP, closeSpans, openPiece, fldF, flushB]
    | some a =>
      have := pieceU_ne s.data.toList a s.size (hst a rfl) (by rw [← size_eq]; exact Nat.le_refl _)
      simp [spansFromP, closeSpans, openPiece, fldF, flushB, this]
  | f + 1, pos, st, acc, h, hp, hst => by
    by_cases hlt : pos < s.size
    · obtain ⟨hw, hwn, hy, hn⟩ := dec_blank s pos hlt
      have hdl : 0 < (s.data.toList.drop pos).length := by rw [List.length_drop, ← size_eq]; omega
      simp only [spansFromP, if_pos hlt]
      cases hb : blP (Utf8.decode s pos).1 with
      | true =>
        obtain ⟨h1, hbl⟩ := hy hb
        simp only [if_true]
        rw [fldF_blank _ _ hdl hbl, List.drop_drop, h1]
        cases st with
        | none =>
          have := spansP_eq s f (pos + 1) none acc (by omega) (by omega) (fun a h => by cases h)
          simpa [openPiece, flushB] using this
        | some a =>
          have hne := pieceU_ne s.data.toList a pos (hst a rfl) (by rw [← size_eq]; omega)
          have := spansP_eq s f (pos + 1) none (acc ++ [(a, pos)]) (by omega) (by omega) (fun a h => by cases h)
          simpa [openPiece, flushB, hne] using this
      | false =>
        simp only [Bool.false_eq_true, if_false]
        rw [fldF_take _ (Utf8.decode s pos).2 _ _ (hn hb), List.drop_drop]
        cases st with
        | none =>
          have := spansP_eq s f (pos + (Utf8.decode s pos).2) (some pos) acc (by omega) hwn (fun a h => by cases h; omega)
          have e : pieceU s.data.toList pos (pos + (Utf8.decode s pos).2) = (s.data.toList.drop pos).take (Utf8.decode s pos).2 := by unfold pieceU; congr 1; omega
          simpa [openPiece, e] using this
        | some a =>
          have := spansP_eq s f (pos + (Utf8.decode s pos).2) (some a) acc (by omega) hwn (fun b h => by cases h; have := hst a rfl; omega)
          have e := pieceU_grow s.data.toList a pos (Utf8.decode s pos).2 (Nat.le_of_lt (hst a rfl))
          simpa [openPiece, e] using this
    · obtain rfl : pos = s.size := by omega
      have hd : s.data.toList.drop s.size = [] := List.drop_eq_nil_of_le (by rw [← size_eq]; exact Nat.le_refl _)
      rw [spansFromP_end _ _ _ _ _ _ hlt, hd]
      cases st with
      | none => simp [closeSpans, openPiece, fldF, flushB]
      | some a =>
        have := pieceU_ne s.data.toList a s.size (hst a rfl) (by rw [← size_eq]; exact Nat.le_refl _)
        simp [closeSpans, openPiece, fldF, flushB, this]

theorem pieceU_extract (s : ByteArray) (a b : Nat) : (s.extract a b).data.toList = pieceU s.data.toList a b := by
  unfold pieceU
  rw [ByteArray.data_extract, Array.toList_extract, List.extract_eq_take_drop]
/-- strings.FieldsFunc at blanks and tabs: the words. -/
theorem goFields_bl (s : ByteArray) : goFieldsP blP s = (fields s.data.toList).map (fun l => ⟨l.toArray⟩) := by
  have := spansP_eq s s.size 0 none [] (by omega) (Nat.zero_le _) (fun a h => by cases h)
  simp only [List.drop_zero, openPiece, List.map_nil] at this
  unfold fields
  rw [this, goFieldsP, List.map_map]
  refine List.map_congr_left fun p _ => ?_
  show s.extract p.1 p.2 = ⟨(pieceU s.data.toList p.1 p.2).toArray⟩
  rw [← pieceU_extract]

/-! ### Trim and Atoi at digits -/
def digs : Bs := [48, 49, 50, 51, 52, 53, 54, 55, 56, 57]
theorem digs_has (b : UInt8) : digs.contains b = isDig b := by
  have e : ∀ k : Nat, k < 256 → (b == UInt8.ofNat k) = (b.toNat == k) := fun k hk => by
    rw [Bool.eq_iff_iff, beq_iff_eq, beq_iff_eq]
    constructor
    · intro h; subst h; simp; omega
    · intro h; subst h; simp
  show (b == UInt8.ofNat 48 || (b == UInt8.ofNat 49 || (b == UInt8.ofNat 50 || (b == UInt8.ofNat 51 || (b == UInt8.ofNat 52 || (b == UInt8.ofNat 53 || (b == UInt8.ofNat 54 || (b == UInt8.ofNat 55 || (b == UInt8.ofNat 56 || (b == UInt8.ofNat 57 || false)))))))))) = isDig b
  rw [e 48 (by omega), e 49 (by omega), e 50 (by omega), e 51 (by omega), e 52 (by omega), e 53 (by omega), e 54 (by omega), e 55 (by omega), e 56 (by omega), e 57 (by omega)]
  unfold isDig
  rw [Bool.eq_iff_iff]
  simp only [Bool.or_eq_true, beq_iff_eq, Bool.and_eq_true, decide_eq_true_eq, Bool.false_eq_true, or_false]
  omega
theorem dropWhile_nil {α : Type} (p : α → Bool) : ∀ l : List α, l.dropWhile p = [] ↔ l.all p = true
  | [] => by simp
  | x :: t => by
    rw [List.dropWhile_cons, List.all_cons]
    cases h : p x with
    | true => simp [dropWhile_nil p t]
    | false => simp
theorem trim_digs (l : Bs) : (trimS l digs = []) ↔ l.all isDig = true := by
  have e : (digs.contains ·) = isDig := funext digs_has
  unfold trimS trimLeftS trimRightS
  rw [e]
  constructor
  · intro h
    rw [dropWhile_nil, List.all_reverse] at h
    have h2 : (l.reverse.dropWhile isDig) = [] := by
      cases hd : l.reverse.dropWhile isDig with
      | nil => rfl
      | cons x t =>
        have hx : isDig x = false := by
          have := List.head_dropWhile_not isDig (l := l.reverse) (by rw [hd]; simp)
          simpa [hd] using this
        rw [hd, List.all_cons, hx] at h
        simp at h
    rw [dropWhile_nil, List.all_reverse] at h2
    exact h2
  · intro h
    have : l.reverse.dropWhile isDig = [] := by rw [dropWhile_nil, List.all_reverse]; exact h
    rw [this]; rfl

theorem natFrom_ge (l : Bs) : ∀ n, n ≤ natFrom n l := by
  induction l with
  | nil => intro n; exact Nat.le_refl _
  | cons b t ih => intro n; have := ih (n * 10 + (b.toNat - 48)); show n ≤ natFrom (n * 10 + (b.toNat - 48)) t; omega
theorem parse_digs : ∀ (l : Bs) (acc : Nat), l.all isDig = true → acc < 18446744073709551616 →
    parseUint10 acc l = if natFrom acc l < 18446744073709551616 then .ok (natFrom acc l) else .range
  | [], acc, _, h => by simp [parseUint10, natFrom, h]
  | b :: t, acc, h, ha => by
    rw [List.all_cons, Bool.and_eq_true] at h
    have hb : 48 ≤ b.toNat ∧ b.toNat ≤ 57 := by simpa [isDig] using h.1
    have hn : natFrom acc (b :: t) = natFrom (acc * 10 + (b.toNat - 48)) t := rfl
    have hge := natFrom_ge t (acc * 10 + (b.toNat - 48))
    simp only [parseUint10, if_pos hb]
    split
    · rw [hn, if_neg (by omega)]
    · split
      · rw [hn, if_neg (by omega)]
      · rw [hn]; exact parse_digs t _ h.2 (by omega)
theorem atoi_digs (l : Bs) (hne : l ≠ []) (h : l.all isDig = true) :
    atoiAll l = if natOf l < 9223372036854775808 then .ok (natOf l) else .range := by
  cases l with
  | nil => exact absurd rfl hne
  | cons c r =>
    have hc : isDig c = true := by rw [List.all_cons, Bool.and_eq_true] at h; exact h.1
    have hb : 48 ≤ c.toNat ∧ c.toNat ≤ 57 := by simpa [isDig] using hc
    have h1 : ¬ (c.toNat = 43 ∨ c.toNat = 45) := by omega
    have h2 : ¬ c.toNat = 45 := by omega
    simp only [atoiAll, if_neg h1, parseMag, if_neg hne, parse_digs (c :: r) 0 h (by omega)]
    show (match (if natOf (c :: r) < 18446744073709551616 then NumEnd.ok (natOf (c :: r)) else NumEnd.range) with | .syntax => NumEnd.syntax | .range => NumEnd.range | .ok u => if ¬ c.toNat = 45 ∧ 9223372036854775808 ≤ u then NumEnd.range else if c.toNat = 45 ∧ 9223372036854775808 < u then NumEnd.range else NumEnd.ok (if c.toNat = 45 then -(u : Int) else (u : Int))) = _
    generalize natOf (c :: r) = n
    by_cases g1 : n < 18446744073709551616
    · rw [if_pos g1]
      by_cases g2 : n < 9223372036854775808
      · simp [h2, g2, Nat.not_le.2 g2]
      · simp [h2, g2, Nat.not_lt.1 g2]
    · rw [if_neg g1, if_neg (by omega)]

end Go.Proofs.YtfllhhgnflpagaaDoor
