/-
  The walk of TokenWords: names and numbers are the reference's.
-/
import Derived.Test.YtgldgkaigomceaaDoorTkG
namespace Go.Proofs.YtgldgkaigomceaaDoor
set_option linter.unusedSimpArgs false
set_option linter.unusedVariables false
open Go.RowKit Go.Shelf
attribute [local go_sem] Oper.semAt_some

theorem ba_list (sb : ByteArray) : ∃ l : Bs, sb = ⟨l.toArray⟩ ∧ l.length = sb.size := ⟨sb.data.toList, rfl, rfl⟩

end Go.Proofs.YtgldgkaigomceaaDoor
