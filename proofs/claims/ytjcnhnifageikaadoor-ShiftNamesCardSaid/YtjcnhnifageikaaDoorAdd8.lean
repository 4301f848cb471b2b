/-
  The walks of package adder: opposite, Sub, Any.
  The walk of package adder's Any.
-/
import Derived.Test.YtjcnhnifageikaaDoorSem
import Derived.Test.YtjcnhnifageikaaDoorLaw2
namespace Go.Proofs.YtjcnhnifageikaaDoor
set_option linter.unusedSimpArgs false
set_option linter.unusedVariables false
open Go.RowKit

theorem take_set_succ {α : Type} (l : List α) (k : Nat) (x : α) (h : k < l.length) : (l.set k x).take (k + 1) = l.take k ++ [x] := by
  rw [List.take_succ_eq_append_getElem (by simpa using h), List.getElem_set_self, List.take_set_of_le (Nat.le_refl _)]

/-- A slice that lies in one block, which is written out. -/
theorem Ints.whole {R : Nat → Prop} {w : World} {b : Nat} {xs : List Int} {t : TypeId} {n : Nat} (hn : n = xs.length) (h : w.heap[b]? = some (.cells (xs.map (Value.int .i64)).toArray t (0, 0))) (hR : R b) (hl : xs.length ≤ 140737488355328) :
    Ints R w (.slice (some ⟨b, 0, none⟩) n n) xs := by subst hn; exact Ints.blk h hR hl

/-- The arguments of check, without a single literal: one word, two words. -/
theorem check1 (bb : Nat) (F : Form) (xs : List Int) (px : Option Addr) (cx : Nat) (w : World) (hB : IsB w bb F) (hx : Ints (Away bb w) w (.slice px xs.length cx) xs) (hlit : ∀ x ∈ xs, -9223372036854775807 ≤ x ∧ x ≤ 9223372036854775807) :
    Calls Tryd.prog 37 #[.pointer (some ⟨bb, 0, none⟩), .slice none 0 0, .slice (some ⟨w.heap.size, 0, none⟩) 1 1] (w.alloc (.cells #[.slice px xs.length cx] 23)) fun e w' =>
      e = .returned (.int .i64 (checkM F [] [xs])) ∧ IsB w' bb F ∧ FrB bb w w' := by
  have hbl : Below w.heap.size w (w.alloc (.cells #[.slice px xs.length cx] 23)) := (Below.refl _ _).alloc (Nat.le_refl _) _
  have hf1 := FrB.of_below hB hbl
  refine (check_any bb F [] [xs] [.slice px xs.length cx] none (some ⟨w.heap.size, 0, none⟩) 0 0 1 1 _ (hB.al _) rfl (by simp) (by unfold maxLen; omega) (by simp) RowR.nil rfl (by simp) (hB.rowNew _ _) rfl (fun i h h' => ?_) (fun l hl => ?_)).mono ?_
  · obtain rfl : i = 0 := by simp at h; exact h
    exact hx.fr hf1
  · simp only [List.mem_cons, List.not_mem_nil, or_false] at hl
    rcases hl with rfl | rfl
    · simp
    · exact hlit
  · rintro e w1 ⟨rfl, h1, h2⟩
    exact ⟨rfl, h1, hf1.trans h2⟩
theorem check2 (bb : Nat) (F : Form) (xs ys : List Int) (px py : Option Addr) (cx cy : Nat) (w : World) (hB : IsB w bb F) (hx : Ints (Away bb w) w (.slice px xs.length cx) xs) (hy : Ints (Away bb w) w (.slice py ys.length cy) ys)
    (hlit : ∀ l ∈ [xs, ys], ∀ x ∈ l, -9223372036854775807 ≤ x ∧ x ≤ 9223372036854775807) :
    Calls Tryd.prog 37 #[.pointer (some ⟨bb, 0, none⟩), .slice none 0 0, .slice (some ⟨w.heap.size, 0, none⟩) 2 2] (w.alloc (.cells #[.slice px xs.length cx, .slice py ys.length cy] 23)) fun e w' =>
      e = .returned (.int .i64 (checkM F [] [xs, ys])) ∧ IsB w' bb F ∧ FrB bb w w' := by
  have hbl : Below w.heap.size w (w.alloc (.cells #[.slice px xs.length cx, .slice py ys.length cy] 23)) := (Below.refl _ _).alloc (Nat.le_refl _) _
  have hf1 := FrB.of_below hB hbl
  refine (check_any bb F [] [xs, ys] [.slice px xs.length cx, .slice py ys.length cy] none (some ⟨w.heap.size, 0, none⟩) 0 0 2 2 _ (hB.al _) rfl (by simp) (by unfold maxLen; omega) (by simp) RowR.nil rfl (by simp) (hB.rowNew _ _) rfl (fun i h h' => ?_) (fun l hl => ?_)).mono ?_
  · have : i = 0 ∨ i = 1 := by simp at h; omega
    rcases this with rfl | rfl
    · exact hx.fr hf1
    · exact hy.fr hf1
  · rcases List.mem_cons.1 hl with rfl | hl
    · simp
    · exact hlit l hl
  · rintro e w1 ⟨rfl, h1, h2⟩
    exact ⟨rfl, h1, hf1.trans h2⟩

end Go.Proofs.YtjcnhnifageikaaDoor

namespace Go.Proofs.YtjcnhnifageikaaDoor
set_option linter.unusedSimpArgs false
set_option linter.unusedVariables false
open Go.RowKit

theorem anStep_bd (st : Int × MS) (x : Int) (hs : st.2.1.vars ≤ 1048576) (h1 : Bd st.1) (hx : Bd x) : (anStep st x).2.1.vars ≤ 1048576 ∧ Bd (anStep st x).1 :=
  ⟨mkM_vars hs (fun F hF => orM_vars F _ _ hF), mkM_bd (orM_bd _ _ _ hs h1 hx)⟩
theorem anF_ok (F : Form) (l : List Int) (hF : F.vars ≤ 1048576) (hl : ∀ x ∈ l, Bd x) : ∀ st : Int × MS, st.2.1.vars ≤ 1048576 → Bd st.1 → (l.foldl anStep st).2.1.vars ≤ 1048576 ∧ Bd (l.foldl anStep st).1 := by
  induction l with
  | nil => intro st h1 h2; exact ⟨h1, h2⟩
  | cons x l ih =>
    intro st h1 h2
    obtain ⟨a, b⟩ := anStep_bd st x h1 h2 (hl x (by simp))
    exact ih (fun y hy => hl y (by simp [hy])) _ a b

theorem litM_eq (x : Int) (s : MS) : litM x s = ((if s.2 = 0 then x else 0), s.2, s.1) := by
  unfold litM
  split
  · rename_i h; rw [h]
  · rfl
theorem check_one {F : Form} {xs : List Int} (h : checkM F [] [xs] = 0) : 1 ≤ xs.length ∧ xs.length ≤ 64 ∧ hasAll F.vars xs = true := by
  obtain ⟨h1, h2⟩ := check_zero h
  exact ⟨(h1 xs (by simp)).1, (h1 xs (by simp)).2.1, h2 xs (by simp)⟩

end Go.Proofs.YtjcnhnifageikaaDoor
