/-
  The walk of the reference's Lines of words.
-/
import Derived.Test.YtgldgkaigomceaaDoorTkW
import Derived.Test.YtgldgkaigomceaaDoorReg
import Derived.Laws.IdiomStrings
import Derived.Laws.Concat
import Derived.IntWalk
namespace Go.Proofs.YtgldgkaigomceaaDoor
set_option linter.unusedSimpArgs false
set_option linter.unusedVariables false
open Go.RowKit Go.Shelf
attribute [local go_sem] Oper.semAt_some

theorem conv1 (c : UInt8) (w : World) : (convert 22 9 (.slice (some ⟨w.heap.size, 0, none⟩) 1 1)).run Tryd.prog (w.alloc (.cells #[.int .u8 (c.toNat : Int)] 5)) = .ok (.string ⟨#[c]⟩) (w.alloc (.cells #[.int .u8 (c.toNat : Int)] 5)) := by
  refine run_convert_bytes_back _ _ _ _ _ _ [c] Tryd.underlying22 Tryd.underlying5 Tryd.underlying9 ?_
  intro j hj
  obtain rfl : j = 0 := by simp at hj; omega
  exact cell_lit _ _ _ _

theorem Acc.tail {B eo ew g cp kk : Nat} {w : World} {vo : Value} {out : List (List Wd)} {init : List Wd} {x : Wd} (c : UInt8) (h : Acc B eo ew w vo (.slice (some ⟨g, 0, none⟩) kk cp) out (init ++ [x])) :
    Acc B eo ew (w.setCell ⟨g, init.length * 3, none⟩ (.string ⟨(x.1 ++ [c]).toArray⟩)) vo (.slice (some ⟨g, 0, none⟩) kk cp) out (init ++ [(x.1 ++ [c], x.2)]) := by
  obtain ⟨⟨vs, h1, h2, h3⟩, h4, h5⟩ := h
  have hf : ∀ k, k ≠ g → (w.setCell ⟨g, init.length * 3, none⟩ (.string ⟨(x.1 ++ [c]).toArray⟩)).heap[k]? = w.heap[k]? := fun k hk => Below.heap_setCell _ _ _ _ hk
  refine ⟨⟨vs, owns_keepG h1 fun j hj => hf j fun e => h5 j hj (by rw [e]; rfl), h2, h3.keep fun k hb hs hx => ⟨hf k fun e => hx.2 (by rw [e]; rfl), hx⟩⟩, ?_, h5⟩
  · obtain ⟨hl, h4⟩ := h4
    rcases h4 with ⟨e, _⟩ | ⟨g', cap, cur, e, hb, hg, hn, hm, hs, ht⟩
    · cases e
    · cases e
      have el : (init ++ [(x.1 ++ [c], x.2)]).length = (init ++ [x]).length := by simp
      rw [el]
      refine ⟨by rw [wflat_len, el], .inr ⟨g, cp, _, rfl, hb, heap_setCell_at (init.length * 3) _ hg, hn, hm, by simpa using hs, ?_⟩⟩
      rw [Array.toList_setIfInBounds, List.take_set, ht, wflat_append, wflat_append, wflat_one, wflat_one, show init.length * 3 = (wflat init).length by rw [wflat_len], List.set_append_right _ _ (Nat.le_refl _), Nat.sub_self]
      rfl

theorem words_cell {B ew g cp kk : Nat} {w : World} {init : List Wd} {x : Wd} (h : w.ownsRow B ew 3 (.slice (some ⟨g, 0, none⟩) kk cp) (init ++ [x]).length (wflat (init ++ [x]))) :
    w.cell? ⟨g, init.length * 3, none⟩ = some (.string ⟨x.1.toArray⟩) ∧ w.frozen? ⟨g, init.length * 3, none⟩ = false := by
  have hs := owns_soft h g rfl
  refine ⟨?_, hs.frozen⟩
  obtain ⟨hl, h4⟩ := h
  rcases h4 with ⟨e, _⟩ | ⟨g', cap, cur, e, hb, hg, hn, hm, hs, ht⟩
  · cases e
  · cases e
    rw [cell_of_row w g _ cur _ _ hg]
    have e1 : (cur.toList.take ((init ++ [x]).length * 3))[init.length * 3]? = some (.string ⟨x.1.toArray⟩) := by
      rw [ht, wflat_append, List.getElem?_append_right (by rw [wflat_len]; exact Nat.le_refl _), wflat_len, Nat.sub_self, wflat_one]
      rfl
    rw [List.getElem?_take] at e1
    split at e1
    · simpa using e1
    · cases e1

theorem cat1 (t : Bs) (c : UInt8) : (⟨t.toArray⟩ : ByteArray) ++ ⟨#[c]⟩ = ⟨(t ++ [c]).toArray⟩ := by
  rw [ByteArray.mk_append_mk]

/-- The reference's own cells: the position that is handed back, and the one under way. -/
structure Two (w : World) (L C : Nat) (W : World) : Prop where
  b0 : W.heap[w.heap.size]? = some (.cells #[.int .i64 0, .int .i64 0] 29 (0, 0))
  b1 : W.heap[w.heap.size + 1]? = some (.cells #[.int .i64 (L : Int), .int .i64 (C : Int)] 29 (0, 0))
  bel : Below w.heap.size w W

theorem rt_nil (L C : Nat) (out : List (List Wd)) (line : List Wd) (com wd : Bool) : rt [] L C out line com wd = .ok (addL out line) := rfl

theorem own_addr {base e sz n : Nat} {w : World} {p : Option Addr} {c k : Nat} {xs : List Value} (h : w.ownsRow base e sz (.slice p k c) n xs) (hn : 0 < n) : ∃ g, p = some ⟨g, 0, none⟩ ∧ base ≤ g := by
  rcases h.2 with ⟨_, h0⟩ | ⟨g, cap, cur, e, hb, _⟩
  · omega
  · cases e; exact ⟨g, rfl, hb⟩
theorem u8_eq (c : UInt8) (k : Nat) (hk : k < 256) : c = UInt8.ofNat k ↔ c.toNat = k := by
  constructor
  · rintro rfl; simp; omega
  · intro h; exact UInt8.toNat_inj.1 (by rw [h]; simp; omega)
theorem sep_iff (c : UInt8) : sepB c = true ↔ c.toNat = 32 ∨ c.toNat = 9 := by
  simp only [sepB, Bool.or_eq_true, beq_iff_eq]
  rw [show (32 : UInt8) = UInt8.ofNat 32 from rfl, show (9 : UInt8) = UInt8.ofNat 9 from rfl, u8_eq _ _ (by omega), u8_eq _ _ (by omega)]
theorem bad_iff (c : UInt8) : badB c = true ↔ c.toNat < 32 ∨ 126 < c.toNat := by
  simp only [badB, Bool.or_eq_true, decide_eq_true_eq, UInt8.lt_iff_toNat_lt]
  simp
theorem Two.nl {w : World} {L C : Nat} {W : World} (h : Two w L C W) :
    Two w (L + 1) 1 (((W.setCell ⟨w.heap.size + 1, 0, none⟩ (.int .i64 ((L : Int) + 1))).setCell ⟨w.heap.size + 1, 1, none⟩ (.int .i64 0)).setCell ⟨w.heap.size + 1, 1, none⟩ (.int .i64 1)) ∧
    (∀ k, k ≠ w.heap.size + 1 → (((W.setCell ⟨w.heap.size + 1, 0, none⟩ (.int .i64 ((L : Int) + 1))).setCell ⟨w.heap.size + 1, 1, none⟩ (.int .i64 0)).setCell ⟨w.heap.size + 1, 1, none⟩ (.int .i64 1)).heap[k]? = W.heap[k]?) ∧
    (((W.setCell ⟨w.heap.size + 1, 0, none⟩ (.int .i64 ((L : Int) + 1))).setCell ⟨w.heap.size + 1, 1, none⟩ (.int .i64 0)).setCell ⟨w.heap.size + 1, 1, none⟩ (.int .i64 1)).heap.size = W.heap.size := by
  have f1 : ∀ (A : World) k i v j, j ≠ k → (A.setCell ⟨k, i, none⟩ v).heap[j]? = A.heap[j]? := fun A k i v j hj => Below.heap_setCell _ _ _ _ hj
  refine ⟨⟨?_, ?_, ?_⟩, fun k hk => (f1 _ _ _ _ _ hk).trans ((f1 _ _ _ _ _ hk).trans (f1 _ _ _ _ _ hk)), by simp⟩
  · exact (f1 _ _ _ _ _ (by omega)).trans ((f1 _ _ _ _ _ (by omega)).trans ((f1 _ _ _ _ _ (by omega)).trans h.b0))
  · rw [show ((L + 1 : Nat) : Int) = (L : Int) + 1 by omega]
    exact heap_setCell_at 1 _ (heap_setCell_at 1 _ (heap_setCell_at 0 _ h.b1))
  · exact ((h.bel.setCell (by show w.heap.size ≤ w.heap.size + 1; omega) _).setCell (by show w.heap.size ≤ w.heap.size + 1; omega) _).setCell (by show w.heap.size ≤ w.heap.size + 1; omega) _
theorem Two.col {w : World} {L C : Nat} {W : World} (h : Two w L C W) :
    Two w L (C + 1) (W.setCell ⟨w.heap.size + 1, 1, none⟩ (.int .i64 ((C : Int) + 1))) ∧
    (∀ k, k ≠ w.heap.size + 1 → (W.setCell ⟨w.heap.size + 1, 1, none⟩ (.int .i64 ((C : Int) + 1))).heap[k]? = W.heap[k]?) ∧
    (W.setCell ⟨w.heap.size + 1, 1, none⟩ (.int .i64 ((C : Int) + 1))).heap.size = W.heap.size := by
  have f1 : ∀ (A : World) k i v j, j ≠ k → (A.setCell ⟨k, i, none⟩ v).heap[j]? = A.heap[j]? := fun A k i v j hj => Below.heap_setCell _ _ _ _ hj
  refine ⟨⟨(f1 _ _ _ _ _ (by omega)).trans h.b0, ?_, h.bel.setCell (by show w.heap.size ≤ w.heap.size + 1; omega) _⟩, fun k hk => f1 _ _ _ _ _ hk, by simp⟩
  rw [show ((C + 1 : Nat) : Int) = (C : Int) + 1 by omega]
  exact heap_setCell_at 1 _ h.b1
theorem Two.app {w : World} {L C : Nat} {W w' : World} {row : Option Nat} (h : Two w L C W) (hg : W.grownBy w' row) (hr : ∀ k, row = some k → w.heap.size + 2 ≤ k) : Two w L C w' := by
  have hl0 := (Array.getElem?_eq_some_iff.1 h.b0).1
  have hl1 := (Array.getElem?_eq_some_iff.1 h.b1).1
  exact ⟨(hg.block _ hl0 fun e => by have := hr _ e.symm; omega).trans h.b0, (hg.block _ hl1 fun e => by have := hr _ e.symm; omega).trans h.b1, h.bel.grown hg (by omega) (fun k e => by have := hr k e; omega)⟩
theorem len_tail (c : UInt8) (init : List Wd) (x : Wd) (i : Nat) (h : ∀ y ∈ init ++ [x], y.1.length ≤ i) : ∀ y ∈ init ++ [(x.1 ++ [c], x.2)], y.1.length ≤ i + 1 := by
  intro y hy
  rcases List.mem_append.1 hy with hy | hy
  · have := h y (List.mem_append_left _ hy); omega
  · obtain rfl := List.mem_singleton.1 hy
    have := h x (by simp)
    simp only [List.length_append, List.length_cons, List.length_nil]; omega

end Go.Proofs.YtgldgkaigomceaaDoor
