/-
  A closed fact of the program: what may be entered.
-/
import Derived.Test.YtehjfmbnebeioaaDoorRows
import Derived.JoinedOf
import Derived.KernelRfl
namespace Go.Proofs.YtehjfmbnebeioaaDoor
set_option linter.unusedSimpArgs false
set_option linter.unusedVariables false
set_option maxRecDepth 100000
theorem factA : (Tryd.pinned.checked.prog.mayEnter) = true := by kernel_rfl
end Go.Proofs.YtehjfmbnebeioaaDoor
