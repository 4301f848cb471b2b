/-
  A closed fact of the program: what may be entered.
-/
import Derived.Test.YtfllhhgnflpagaaDoorRows
import Derived.JoinedOf
import Derived.KernelRfl
namespace Go.Proofs.YtfllhhgnflpagaaDoor
set_option linter.unusedSimpArgs false
set_option linter.unusedVariables false
set_option maxRecDepth 100000
theorem factA : (Tryd.pinned.checked.prog.mayEnter) = true := by kernel_rfl
end Go.Proofs.YtfllhhgnflpagaaDoor
