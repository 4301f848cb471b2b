/-
  Decimal numerals, with zeros ahead: the numbers that they are. No program in sight.
-/
import Derived.Test.YtgldgkaigomceaaDoorTkD
import Derived.Lib.ItoaNum
namespace Go.Proofs.YtgldgkaigomceaaDoor
set_option linter.unusedSimpArgs false
set_option linter.unusedVariables false
open Go.Lib

theorem numGo_cons (c : UInt8) (r : Bs) (n : Nat) : numGo (c :: r) n = if (18446744073709551615 - (c.toNat - 48)) / 10 < n then (0, 3) else numGo r (10 * n + (c.toNat - 48)) := rfl
theorem dig_nat {d : Nat} (h : d < 10) : (UInt8.ofNat (48 + d)).toNat = 48 + d := by rw [UInt8.toNat_ofNat']; omega
theorem decDigits_all : ∀ n, (decDigits n).all digB = true := by
  intro n
  induction n using Nat.strongRecOn with
  | _ n ih =>
    rw [decDigits]
    split
    · rename_i h
      simp [digB, dig_nat h]; omega
    · rename_i h
      rw [List.all_append, ih (n / 10) (by omega)]
      have := dig_nat (d := n % 10) (by omega)
      simp only [List.all_cons, List.all_nil, digB, this]
      simp; omega
theorem numGo_dec : ∀ (n : Nat), n ≤ 18446744073709551615 → ∀ t, numGo (decDigits n ++ t) 0 = numGo t n := by
  intro n
  induction n using Nat.strongRecOn with
  | _ n ih =>
    intro hn t
    rw [decDigits]
    split
    · rename_i h
      rw [List.cons_append, List.nil_append, numGo_cons, dig_nat h, if_neg (by omega)]
      congr 1; omega
    · rename_i h
      rw [List.append_assoc, ih (n / 10) (by omega) (by omega), List.cons_append, List.nil_append, numGo_cons, dig_nat (d := n % 10) (by omega), if_neg (by omega)]
      congr 1; omega
theorem numGo_zeros : ∀ (k : Nat) (t : Bs), numGo (List.replicate k 48 ++ t) 0 = numGo t 0
  | 0, t => rfl
  | k + 1, t => by
    rw [List.replicate_succ, List.cons_append, numGo_cons]
    simpa using numGo_zeros k t
/-- A numeral, with zeros ahead. -/
def numS (k n : Nat) : Bs := List.replicate k 48 ++ decDigits n
theorem numS_len (k n : Nat) : (numS k n).length = k + nDigits n := by simp [numS, decDigits_length]
theorem numS_all (k n : Nat) : (numS k n).all digB = true := by
  unfold numS
  rw [List.all_append, decDigits_all, Bool.and_true, List.all_eq_true]
  intro c hc
  obtain rfl := List.eq_of_mem_replicate hc
  decide
theorem nDigits_pos (n : Nat) : 1 ≤ nDigits n := by rw [nDigits]; split <;> omega
theorem numR_of (s : Bs) (h : 1 ≤ s.length ∧ s.length ≤ 20) : numR s = if s.all digB = true then numGo s 0 else (0, 4) := by
  unfold numR; rw [if_neg (by omega)]
theorem numR_not (s : Bs) (h : s.length < 1 ∨ 20 < s.length) : numR s = (0, 4) := by
  unfold numR; rw [if_pos (by omega)]
theorem numR_numS (k n : Nat) (hn : n ≤ 18446744073709551615) (hk : k + nDigits n ≤ 20) : numR (numS k n) = (n, 0) := by
  have h1 := nDigits_pos n
  rw [numR_of _ (by rw [numS_len]; omega), if_pos (numS_all k n)]
  unfold numS
  rw [numGo_zeros]
  have := numGo_dec n hn []
  rw [List.append_nil] at this
  rw [this]; rfl
theorem numR_a (s : Bs) (hs : s.length ≤ 20) : numR (97 :: s.drop 1) = (0, 4) := by
  rcases Nat.lt_or_ge 20 (97 :: s.drop 1).length with h | h
  · exact numR_not _ (.inr h)
  · rw [numR_of _ ⟨by simp, h⟩, if_neg]
    simp [digB]
theorem numR_long (s t : Bs) (h : 20 < t.length) : numR (s ++ t) = (0, 4) := numR_not _ (.inr (by rw [List.length_append]; omega))
theorem nameB_num (s : Bs) (h : 1 ≤ s.length) (ha : s.all digB = true) : nameB s = false := by
  obtain ⟨c, r, rfl⟩ : ∃ c r, s = c :: r := by cases s with | nil => simp at h | cons c r => exact ⟨c, r, rfl⟩
  have hc : digB c = true := by simp only [List.all_cons, Bool.and_eq_true] at ha; exact ha.1
  simp [nameB, hc]
theorem nameB_pre (c : UInt8) (s : Bs) (hl : s.length ≤ 31) (hc : digB c = false) (hn : namB c = true) (ha : s.all digB = true) : nameB (c :: s) = true := by
  have h2 : s.all namB = true := by
    rw [List.all_eq_true] at ha ⊢
    intro d hd
    have := ha d hd
    simp [namB, this]
  simp [nameB, hc, hn, h2]; omega
end Go.Proofs.YtgldgkaigomceaaDoor
