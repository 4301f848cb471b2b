/-
  The walk of the reference's Lines of words.
-/
import Derived.Test.YtoofbgoeipijcaaDoorB3
import Derived.Test.YtoofbgoeipijcaaDoorSReg
import Derived.Laws.IdiomStrings
import Derived.Laws.Concat
import Derived.IntWalk
namespace Go.Proofs.YtoofbgoeipijcaaDoor
set_option linter.unusedSimpArgs false
set_option linter.unusedVariables false
open Go.RowKit Go.Shelf
attribute [local go_sem] Oper.semAt_some

theorem Acc.tail {B eo ew g cp kk : Nat} {w : World} {vo : Value} {out : List (List Wd)} {init : List Wd} {x : Wd} (c : UInt8) (h : Acc B eo ew w vo (.slice (some ⟨g, 0, none⟩) kk cp) out (init ++ [x])) :
    Acc B eo ew (w.setCell ⟨g, init.length * 3, none⟩ (.string ⟨(x.1 ++ [c]).toArray⟩)) vo (.slice (some ⟨g, 0, none⟩) kk cp) out (init ++ [(x.1 ++ [c], x.2)]) := by
  obtain ⟨⟨vs, h1, h2, h3⟩, h4, h5⟩ := h
  have hf : ∀ k, k ≠ g → (w.setCell ⟨g, init.length * 3, none⟩ (.string ⟨(x.1 ++ [c]).toArray⟩)).heap[k]? = w.heap[k]? := fun k hk => Below.heap_setCell _ _ _ _ hk
  refine ⟨⟨vs, owns_keepG h1 fun j hj => hf j fun e => h5 j hj (by rw [e]; rfl), h2, h3.keep fun k hb hs hx => ⟨hf k fun e => hx.2 (by rw [e]; rfl), hx⟩⟩, ?_, h5⟩
  · obtain ⟨hl, h4⟩ := h4
    rcases h4 with ⟨e, _⟩ | ⟨g', cap, cur, e, hb, hg, hn, hm, hs, ht⟩
    · cases e
    · cases e
      have el : (init ++ [(x.1 ++ [c], x.2)]).length = (init ++ [x]).length := by simp
      rw [el]
      refine ⟨by rw [wflat_len, el], .inr ⟨g, cp, _, rfl, hb, heap_setCell_at (init.length * 3) _ hg, hn, hm, by simpa using hs, ?_⟩⟩
      rw [Array.toList_setIfInBounds, List.take_set, ht, wflat_append, wflat_append, wflat_one, wflat_one, show init.length * 3 = (wflat init).length by rw [wflat_len], List.set_append_right _ _ (Nat.le_refl _), Nat.sub_self]
      rfl

end Go.Proofs.YtoofbgoeipijcaaDoor
