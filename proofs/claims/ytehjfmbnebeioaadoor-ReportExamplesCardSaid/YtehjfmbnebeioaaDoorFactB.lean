/-
  A closed fact of the program: its lifts.
-/
import Derived.Test.YtehjfmbnebeioaaDoorRows
import Derived.JoinedOf
import Derived.KernelRfl
namespace Go.Proofs.YtehjfmbnebeioaaDoor
set_option linter.unusedSimpArgs false
set_option linter.unusedVariables false
set_option maxRecDepth 100000
theorem factB : ((Rows.reportWordsRow.lifted == Tryd.pinned.checked.prog.liftsFinal)) = true := by kernel_rfl
end Go.Proofs.YtehjfmbnebeioaaDoor
