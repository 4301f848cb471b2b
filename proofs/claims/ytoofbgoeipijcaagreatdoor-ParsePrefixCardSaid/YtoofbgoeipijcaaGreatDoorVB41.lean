/-
 A part.
-/
import Derived.Test.YtoofbgoeipijcaaGreatDoorVSPrX
namespace Go.Proofs.YtoofbgoeipijcaaGreatDoor
set_option linter.all false
open Go.RowKit Go.Shelf
attribute [local go_sem] Oper.semAt_some
end Go.Proofs.YtoofbgoeipijcaaGreatDoor
