/-
  Closed facts of the program, which all rows share.
-/
import Derived.Test.YtehjfmbnebeioaaDoorRows
import Derived.JoinedOf
import Derived.KernelRfl
namespace Go.Proofs.YtehjfmbnebeioaaDoor
set_option linter.unusedSimpArgs false
set_option linter.unusedVariables false
set_option maxRecDepth 100000
theorem factLaid : (laidOutB Tryd.pinned.checked.prog) = true := by kernel_rfl
theorem factMaps : (mapsRowed Tryd.pinned.checked.prog) = true := by kernel_rfl
theorem factStops : ((Tryd.pinned.checked.prog.stops == [])) = true := by kernel_rfl
theorem factKnobs : ((Tryd.pinned.checked.prog.stopKnobs == [])) = true := by kernel_rfl
theorem factKeys : ((Rows.reportWordsRow.plainKeys == Tryd.pinned.checked.prog.plainKeys)) = true := by kernel_rfl
theorem factHeard : (Tryd.pinned.checked.prog.stopsHeard) = true := by kernel_rfl
theorem andT {a b : Bool} (h : a = true) (k : b = true) : (a && b) = true := by rw [h, k]; rfl
end Go.Proofs.YtehjfmbnebeioaaDoor
