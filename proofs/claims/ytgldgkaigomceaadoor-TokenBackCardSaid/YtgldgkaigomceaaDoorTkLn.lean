/-
  The walk of TokenLines: the lines of words are the reference's; results are new memory.
-/
import Derived.Test.YtgldgkaigomceaaDoorTkS
import Derived.Test.YtgldgkaigomceaaDoorTkWd
namespace Go.Proofs.YtgldgkaigomceaaDoor
set_option linter.unusedSimpArgs false
set_option linter.unusedVariables false
open Go.RowKit Go.Shelf
attribute [local go_sem] Oper.semAt_some

theorem WLL.slc {R : Nat → Prop} {w : World} {v : Value} {ws : List (List Wd)} (h : WLL R w v ws) : ∃ p c, v = .slice p ws.length c := by
  obtain ⟨xs, ⟨p, c, e, _⟩, hl, _⟩ := h
  exact ⟨p, c, by rw [e, hl]⟩

theorem WLL.le {R : Nat → Prop} {w : World} {v : Value} {ws : List (List Wd)} (h : WLL R w v ws) : ws.length ≤ 140737488355328 := by
  obtain ⟨xs, ⟨p, c, e, _, _, h, _⟩, hl, _⟩ := h
  omega

end Go.Proofs.YtgldgkaigomceaaDoor
