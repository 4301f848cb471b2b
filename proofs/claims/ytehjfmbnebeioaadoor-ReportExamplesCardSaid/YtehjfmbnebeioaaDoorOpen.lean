/-
  Arguments of the laws, opened: two words of a circuit by value.
-/
import Derived.Test.YtehjfmbnebeioaaDoorRows
import Derived.Test.YtehjfmbnebeioaaDoorLib
import Derived.WalkKit
import Derived.ProofKit
import Derived.OpenShut
import Derived.ChangeOld
import Derived.Below
import Derived.SizedLaws
import Derived.Lib.SmallJoins
import Derived.Deep.Grids
namespace Go.Proofs.YtehjfmbnebeioaaDoor
set_option linter.unusedSimpArgs false
set_option linter.unusedVariables false
open Go.ChangeShapes Go.WideShapes Go.ChangeAt Go.RowKit Go.Joins

theorem cell_lt {w : World} {b o : Nat} {v : Value} (h : w.cell? ⟨b, o, none⟩ = some v) : b < w.heap.size := by
  rcases Nat.lt_or_ge b w.heap.size with h1 | h1
  · exact h1
  · simp [World.cell?, Array.getElem?_eq_none h1] at h

section
variable {H : Type} {enc : TypeId × Value → H} {W : World}

theorem bytes_int : Tryd.prog.bytesOf 3 = 8 := by kernel_rfl
theorem bytes_bool : Tryd.prog.bytesOf 4 = 1 := by kernel_rfl

theorem wf_bounds {x : Int} (h : (Lit.int .i64 x).wf = true) : -9223372036854775808 ≤ x ∧ x ≤ 9223372036854775807 := by
  have h1 : IntKind.i64.min = -9223372036854775808 := by decide
  have h2 : IntKind.i64.max = 9223372036854775807 := by decide
  simp [Lit.wf] at h
  omega

theorem ints_open {n : Nat} {v : Value} {y : DataW H × List MemPlace} (h : DataW.trod enc Tryd.prog W 0 (fun _ => true) true n 28 [v] = some y) (hs : ∀ m ∈ y.1.weights Tryd.prog 28, m ≤ reachBytes) :
    ∃ xs, Ints (· < W.heap.size) W v xs ∧ ∀ x ∈ xs, -9223372036854775808 ≤ x ∧ x ≤ 9223372036854775807 := by
  rcases Go.ChangeShapes.open_ints Tryd.underlying28 Tryd.underlying3 (by kernel_rfl) h with ⟨hcs, _⟩ | ⟨a, len, cap, zs, hcs, _, hl, hm, hz, hx, hcell, hwz⟩
  · simp at hcs
    subst hcs
    exact ⟨[], Sl.nil, by simp⟩
  · simp at hcs
    subst hcs
    simp only [if_true] at hz
    subst hx
    have hlen : (zs.take len).length = len := by rw [List.length_take]; omega
    have hr : cap * 8 ≤ 140737488351232 := by
      have := hs (((lits (H := H) .i64 (zs.take len)).length + (lits (H := H) .i64 (zs.drop len)).length) * Tryd.prog.bytesOf 3) (by simp [DataW.weights, Tryd.underlying28])
      rw [bytes_int] at this
      simp only [lits, List.length_map, List.length_take, List.length_drop, reachBytes] at this
      omega
    refine ⟨zs.take len, ⟨some a, cap, by rw [List.length_map, hlen], by rw [List.length_map, hlen]; exact hl, hm, by rw [List.length_map, hlen]; omega, ?_⟩, fun x hx => ?_⟩
    · by_cases h0 : len = 0
      · subst h0; exact .inl rfl
      · obtain ⟨b, off, spot⟩ := a
        have hspot : spot = none := by simpa [Addr.add] using World.cell?_spot (hcell 0 (by omega))
        subst hspot
        have hc0 := hcell 0 (by omega)
        refine .inr ⟨b, off, rfl, cell_lt (by simpa [Addr.add] using hc0), fun j hj => ?_⟩
        have hj2 : j < len := by rw [List.length_map, hlen] at hj; exact hj
        rw [show (⟨b, off + j, none⟩ : Addr) = (⟨b, off, none⟩ : Addr).add j from by simp [Addr.add], hcell j (by omega)]
        simp only [List.getElem_map, List.getElem_take]
        rw [List.getD_eq_getElem?_getD, List.getElem?_eq_getElem (by omega)]
        rfl
    · have := hwz x (List.mem_of_mem_take hx)
      exact wf_bounds this

end
end Go.Proofs.YtehjfmbnebeioaaDoor
