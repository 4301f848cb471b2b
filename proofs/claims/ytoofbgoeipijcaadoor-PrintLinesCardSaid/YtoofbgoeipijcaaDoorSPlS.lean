/-
  A text cut at its line feeds (no program in sight).
-/
import Derived.Test.YtoofbgoeipijcaaDoorSPrI
import Derived.Lib.SplitLaws
namespace Go.Proofs.YtoofbgoeipijcaaDoor
set_option linter.unusedSimpArgs false
set_option linter.unusedVariables false
open Go.RowKit Go.Shelf

theorem idx_line : ∀ (s r : Bs), (∀ d ∈ s, d ≠ 10) → Lib.index (s ++ 10 :: r) [10] = (s.length : Int)
  | [], r, _ => by simp [Lib.index, List.isPrefixOf]
  | d :: s, r, h => by
    have hd := h d (List.mem_cons_self ..)
    have ih := idx_line s r fun x hx => h x (List.mem_cons_of_mem _ hx)
    have h1 : ([10] : List UInt8).isPrefixOf (d :: (s ++ 10 :: r)) = false := by
      simp [List.isPrefixOf]; exact fun e => hd e.symm
    rw [List.cons_append, Lib.index, h1, ih]
    simp only [Bool.false_eq_true, if_false]
    rw [if_neg (by simp)]
    simp
theorem split_text : ∀ (L : List Bs), (∀ l ∈ L, ∀ d ∈ l, d ≠ 10) → Lib.splitK [10] 0 L.length (textT L) = L ++ [[]]
  | [], _ => rfl
  | s :: r, h => by
    have e : textT (s :: r) = s ++ 10 :: textT r := by simp [textT]
    have hi := idx_line s (textT r) (h s (List.mem_cons_self ..))
    rw [List.length_cons, Lib.splitK, e, hi, if_neg (by simp)]
    have ih := split_text r fun l hl => h l (List.mem_cons_of_mem _ hl)
    simp only [Int.toNat_natCast, Nat.add_zero, List.cons_append]
    have hd : (s ++ 10 :: textT r).drop (s.length + 1) = textT r := by rw [List.drop_append]; simp
    rw [List.take_left' rfl, show ([10] : List UInt8).length = 1 from rfl, hd, ih]
theorem count_text : ∀ (L : List Bs), (∀ l ∈ L, ∀ d ∈ l, d ≠ 10) → (textT L).count 10 = L.length
  | [], _ => rfl
  | s :: r, h => by
    have e : textT (s :: r) = s ++ 10 :: textT r := by simp [textT]
    have h0 : s.count 10 = 0 := List.count_eq_zero.2 fun hm => h s (List.mem_cons_self ..) 10 hm rfl
    rw [e, List.count_append, h0, List.count_cons_self, count_text r fun l hl => h l (List.mem_cons_of_mem _ hl), List.length_cons]
    omega
end Go.Proofs.YtoofbgoeipijcaaDoor
