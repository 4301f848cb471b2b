/-
  A closed fact of the program: how it was made.
-/
import Derived.Test.YtehjfmbnebeioaaDoorRows
import Derived.JoinedOf
import Derived.KernelRfl
namespace Go.Proofs.YtehjfmbnebeioaaDoor
set_option linter.unusedSimpArgs false
set_option linter.unusedVariables false
set_option maxRecDepth 100000
theorem factC : ((Tryd.pinned.checked.prog.make == some Rows.reportWordsRow.make)) = true := by kernel_rfl
end Go.Proofs.YtehjfmbnebeioaaDoor
