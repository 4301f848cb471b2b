/-
  Closed facts of the program, which all rows share.
-/
import Derived.Test.YtgldgkaigomceaaRows
import Derived.JoinedOf
import Derived.KernelRfl
namespace Go.Proofs.Ytgldgkaigomceaa
set_option linter.unusedSimpArgs false
set_option linter.unusedVariables false
set_option maxRecDepth 100000
theorem factLaid : (laidOutB Try.pinned.checked.prog) = true := by kernel_rfl
theorem factMaps : (mapsRowed Try.pinned.checked.prog) = true := by kernel_rfl
theorem factStops : ((Try.pinned.checked.prog.stops == [])) = true := by kernel_rfl
theorem factKnobs : ((Try.pinned.checked.prog.stopKnobs == [])) = true := by kernel_rfl
theorem factKeys : ((Rows.tokenLinesRow.plainKeys == Try.pinned.checked.prog.plainKeys)) = true := by kernel_rfl
theorem factHeard : (Try.pinned.checked.prog.stopsHeard) = true := by kernel_rfl
theorem andT {a b : Bool} (h : a = true) (k : b = true) : (a && b) = true := by rw [h, k]; rfl
end Go.Proofs.Ytgldgkaigomceaa
