/-
  A closed fact of the program: how it was made.
-/
import Derived.Test.YtfllhhgnflpagaaDoorRows
import Derived.JoinedOf
import Derived.KernelRfl
namespace Go.Proofs.YtfllhhgnflpagaaDoor
set_option linter.unusedSimpArgs false
set_option linter.unusedVariables false
set_option maxRecDepth 100000
theorem factC : ((Tryd.pinned.checked.prog.make == some Rows.dimacsFormatsRow.make)) = true := by kernel_rfl
end Go.Proofs.YtfllhhgnflpagaaDoor
