/-
  The closed examples of the reader and the writer. Plain.
-/
import Derived.Test.YtfllhhgnflpagaaDoorDmVl
namespace Go.Proofs.YtfllhhgnflpagaaDoor
set_option linter.unusedSimpArgs false
set_option linter.unusedVariables false

def nmA : Bs := [99, 32, 120, 10, 112, 32, 99, 110, 102, 32, 50, 32, 49, 10, 99, 10, 49, 10, 50, 32, 48]
def nmB : Bs := [112, 32, 99, 110, 102, 32, 48, 32, 48]
def nmT : List Bs := [[], [99], [112, 32, 99, 110, 102, 32, 50], [112, 32, 99, 110, 102, 32, 50, 32, 45, 49], [112, 32, 99, 110, 102, 32, 49, 48, 52, 56, 53, 55, 55, 32, 48], [112, 32, 99, 110, 102, 32, 48, 32, 49, 48, 52, 56, 53, 55, 55], [112, 32, 99, 110, 102, 32, 50, 32, 49, 10, 49, 32, 51, 32, 48], [112, 32, 99, 110, 102, 32, 50, 32, 49, 10, 49, 32, 120, 32, 48], [112, 32, 99, 110, 102, 32, 50, 32, 49, 10, 49, 32, 48, 50, 32, 48], [112, 32, 99, 110, 102, 32, 50, 32, 49, 10, 49, 32, 48, 10, 50, 32, 48], [112, 32, 99, 110, 102, 32, 50, 32, 49, 10, 49, 32, 50], [112, 32, 99, 110, 102, 32, 50, 32, 49, 10, 49, 32, 50, 10], [112, 32, 99, 110, 102, 32, 50, 32, 49, 10, 49, 32, 45, 48], [112, 32, 99, 110, 102, 32, 50, 32, 49, 10, 43, 49, 32, 48], [10, 112, 32, 99, 110, 102, 32, 50, 32, 48, 10, 48], [112, 32, 99, 110, 102, 32, 50, 32, 49, 10, 45, 57, 57, 57, 57, 57, 57, 57, 57, 57, 57, 57, 57, 57, 57, 57, 57, 57, 57, 57, 57, 57, 57, 57, 32, 48], [112, 32, 99, 110, 102, 32, 50, 32, 57, 57, 57, 57, 57, 57, 57, 57, 57, 57, 57, 57, 57, 57, 57, 57, 57, 57, 57, 57, 57, 57, 57], [112, 32, 99, 110, 102, 32, 57, 57, 57, 57, 57, 57, 57, 57, 57, 57, 57, 57, 57, 57, 57, 57, 57, 57, 57, 57, 57, 57, 57, 32, 120]]
def nmL : List Int := [1, 2, 1, 1, 1, 1, 2, 2, 2, 3, 3, 3, 2, 2, 3, 2, 1, 1]
def nmE : List Int := [4, 4, 4, 4, 3, 5, 3, 4, 4, 4, 4, 4, 4, 4, 4, 3, 5, 4]
theorem parse_is {s : Bs} (hl : ¬ 65536 < s.length) {r : (Int × List (List Int)) × Int × Int} (h : parseF (lr s true [] [] []) = r) : parseM s = r := by rw [parseM_F hl]; exact h
theorem parse_nmA : parseM nmA = ((2, [[1, 2]]), 0, 0) := parse_is (by decide) (by rfl)
theorem parse_nmB : parseM nmB = ((0, []), 0, 0) := parse_is (by decide) (by rfl)
theorem parse_nmT (i : Nat) (hi : i < 18) : parseM (nmT.getD i []) = ((0, []), nmL.getD i 0, nmE.getD i 0) := by
  match i, hi with
  | 0, _ => exact parse_is (by decide) (by rfl)
  | 1, _ => exact parse_is (by decide) (by rfl)
  | 2, _ => exact parse_is (by decide) (by rfl)
  | 3, _ => exact parse_is (by decide) (by rfl)
  | 4, _ => exact parse_is (by decide) (by rfl)
  | 5, _ => exact parse_is (by decide) (by rfl)
  | 6, _ => exact parse_is (by decide) (by rfl)
  | 7, _ => exact parse_is (by decide) (by rfl)
  | 8, _ => exact parse_is (by decide) (by rfl)
  | 9, _ => exact parse_is (by decide) (by rfl)
  | 10, _ => exact parse_is (by decide) (by rfl)
  | 11, _ => exact parse_is (by decide) (by rfl)
  | 12, _ => exact parse_is (by decide) (by rfl)
  | 13, _ => exact parse_is (by decide) (by rfl)
  | 14, _ => exact parse_is (by decide) (by rfl)
  | 15, _ => exact parse_is (by decide) (by rfl)
  | 16, _ => exact parse_is (by decide) (by rfl)
  | 17, _ => exact parse_is (by decide) (by rfl)
  | k + 18, h => omega
/-! ### a text of blanks -/
theorem lr_blank : ∀ n, lr (List.replicate n 32) false [] [] [] = [[]]
  | 0 => rfl
  | n + 1 => by
    rw [List.replicate_succ]
    show lr (List.replicate n 32) false [] (flushB [] []) [] = _
    exact lr_blank n
theorem parse_blanks (n : Nat) (h0 : 1 ≤ n) (h : n ≤ 65536) : parseM (List.replicate n 32) = ((0, []), 2, 4) := by
  refine parse_is (by simp; omega) ?_
  obtain ⟨m, rfl⟩ : ∃ m, n = m + 1 := ⟨n - 1, by omega⟩
  rw [List.replicate_succ]
  have e : lr (32 :: List.replicate m 32) true [] [] [] = [[]] := lr_blank m
  rw [e]
  rfl
theorem parse_too (n : Nat) (h : 65536 < n) : parseM (List.replicate n 32) = ((0, []), 0, 5) := by
  unfold parseM
  rw [if_pos (by simpa using h)]
/-! ### a text that is too long -/
theorem many_long (N : Nat) (hN : N = 4096) (K : Nat) (hK : K = 3) : formatM 1048576 (List.replicate K (List.replicate N 524288)) = ([], 5) := by
  have hl : litM 1048576 (List.replicate N 524288) = 0 := by
    unfold litM
    rw [if_neg (by omega), if_neg (by simp; omega), if_neg]
    rw [Bool.not_eq_true, List.any_eq_false]
    intro a ha
    rw [List.eq_of_mem_replicate ha]
    decide
  have hc : checkM 1048576 (List.replicate K (List.replicate N 524288)) = 0 := by
    unfold checkM
    rw [if_neg (by omega), if_neg (by simp; omega)]
    exact litsM_all fun c hc => by rw [List.eq_of_mem_replicate hc]; exact hl
  refine formatM_long hc K ?_
  have hi : (Lib.itoa 524288).length = 6 := by decide +kernel
  have hcl : (clauseT (List.replicate N 524288)).length = N * 7 + 2 := by
    unfold clauseT
    rw [List.length_append, List.flatMap_replicate]
    simp [hi]
  rw [List.take_of_length_le (by simp), List.flatMap_replicate, List.length_append]
  have hx : K * (N * 7 + 2) = 86022 := by rw [hK, hN]
  simp [hcl]
  omega

end Go.Proofs.YtfllhhgnflpagaaDoor
