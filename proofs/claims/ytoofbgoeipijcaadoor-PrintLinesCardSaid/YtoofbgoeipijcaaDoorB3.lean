/-
  Package token: the iterator over the lines of a text, and the law for a loop over it whose body may return.
  Package token: the walk of Lines.
-/
import Derived.Test.YtoofbgoeipijcaaDoorSTkM
import Derived.Test.YtoofbgoeipijcaaDoorShelf
namespace Go.Proofs.YtoofbgoeipijcaaDoor
set_option linter.unusedSimpArgs false
set_option linter.unusedVariables false
open Go.RowKit Go.Shelf
attribute [local go_sem] Oper.semAt_some

/-- What a predicate of worlds abides: new blocks, draws, a turn of a block from B on that is no row of cells. -/
def Ab (B : Nat) (I : World → Prop) : Prop :=
  ∀ W W' row, I W → W.grownBy W' row → (∀ r, row = some r → B ≤ r ∧ ∃ o : Obj, W.heap[r]? = some o ∧ o.isCells = false) → I W'
theorem Ab.drewN {B : Nat} {I : World → Prop} (h : Ab B I) {W : World} (k : Nat) (hs : I W) : I (W.drewN k) :=
  h W _ none hs ⟨rfl, rfl, rfl, Nat.le_refl _, fun _ _ _ => rfl⟩ (fun r e => by cases e)

end Go.Proofs.YtoofbgoeipijcaaDoor

namespace Go.Proofs.YtoofbgoeipijcaaDoor
set_option linter.unusedSimpArgs false
set_option linter.unusedVariables false
open Go.RowKit Go.Shelf
attribute [local go_sem] Oper.semAt_some

theorem heap_setCell_at {W : World} {k : Nat} {t : TypeId} (i : Nat) (v : Value) {cs : Array Value} (h : W.heap[k]? = some (.cells cs t (0, 0))) :
    (W.setCell ⟨k, i, none⟩ v).heap[k]? = some (.cells (cs.setIfInBounds i v) t (0, 0)) := by
  obtain ⟨hlt, hh⟩ := Array.getElem?_eq_some_iff.1 h
  show (W.heap.modify k _)[k]? = _
  rw [Array.getElem?_modify, if_pos rfl, h]
  rfl
theorem extract_toList (sb : ByteArray) (f i : Nat) : (sb.extract f i).data.toList = (sb.data.toList.drop f).take (i - f) := by
  rw [Lib.extract_data]
end Go.Proofs.YtoofbgoeipijcaaDoor
