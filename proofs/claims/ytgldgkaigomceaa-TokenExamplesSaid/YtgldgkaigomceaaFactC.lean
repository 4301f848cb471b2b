/-
  A closed fact of the program: how it was made.
-/
import Derived.Test.YtgldgkaigomceaaRows
import Derived.JoinedOf
import Derived.KernelRfl
namespace Go.Proofs.Ytgldgkaigomceaa
set_option linter.unusedSimpArgs false
set_option linter.unusedVariables false
set_option maxRecDepth 100000
theorem factC : ((Try.pinned.checked.prog.make == some Rows.tokenLinesRow.make)) = true := by kernel_rfl
end Go.Proofs.Ytgldgkaigomceaa
