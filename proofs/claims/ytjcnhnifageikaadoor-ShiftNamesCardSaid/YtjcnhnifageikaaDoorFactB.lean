/-
  A closed fact of the program: its lifts.
-/
import Derived.Test.YtjcnhnifageikaaDoorRows
import Derived.JoinedOf
import Derived.KernelRfl
namespace Go.Proofs.YtjcnhnifageikaaDoor
set_option linter.unusedSimpArgs false
set_option linter.unusedVariables false
set_option maxRecDepth 100000
theorem factB : ((Rows.shiftMatchesRow.lifted == Tryd.pinned.checked.prog.liftsFinal)) = true := by kernel_rfl
end Go.Proofs.YtjcnhnifageikaaDoor
