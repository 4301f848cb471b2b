/-
 Lists of bytes in memory, and an argument that is one, opened.
-/
import Derived.Test.YtoofbgoeipijcaaDoorUB0
namespace Go.Proofs.YtoofbgoeipijcaaDoor
set_option linter.unusedSimpArgs false
set_option linter.unusedVariables false
open Go.ChangeShapes Go.WideShapes Go.ChangeAt Go.RowKit Go.Joins

def u8v (c : UInt8) : Value := .int .u8 (c.toNat : Int)
/-- v is a slice that reads as these bytes. -/
def Bys (R : Nat → Prop) (w : World) (v : Value) (b : List UInt8) : Prop := Sl R w v (b.map u8v)
theorem Bys.op {R : Nat → Prop} {w : World} {v : Value} {xs : List UInt8} (h : Bys R w v xs) :
  ∃ p c, v = .slice p xs.length c ∧ xs.length ≤ c ∧ c ≤ maxLen ∧ xs.length ≤ 140737488355328 ∧ RowR R w p (xs.map u8v) := by
 obtain ⟨p, c, e, h1, h2, h3, hr⟩ := h
 rw [List.length_map] at e h1 h3
 exact ⟨p, c, e, h1, h2, h3, hr⟩
theorem Bys.keep {R R' : Nat → Prop} {w w' : World} {v : Value} {xs : List UInt8} (h : Bys R w v xs) (hf : ∀ k, R k → R' k ∧ w'.heap[k]? = w.heap[k]?) : Bys R' w' v xs := Sl.keep h hf
theorem Bys.below {R : Nat → Prop} {w w' : World} {v : Value} {xs : List UInt8} (h : Bys R w v xs) (hR : ∀ k, R k → k < w.heap.size) (hb : Below w.heap.size w w') : Bys R w' v xs := Sl.keep h fun k hk => ⟨hk, hb.block k (hR k hk)⟩
section
variable {H : Type} {enc : TypeId × Value → H} {W : World}
theorem wf_u8 {x : Int} (h : (Lit.int .u8 x).wf = true) : 0 ≤ x ∧ x ≤ 255 := by
 have h1 : IntKind.u8.min = 0 := by decide
 have h2 : IntKind.u8.max = 255 := by decide
 simp [Lit.wf] at h
 omega
theorem wf_u64 {x : Int} (h : (Lit.int .u64 x).wf = true) : 0 ≤ x ∧ x ≤ 18446744073709551615 := by
 have h1 : IntKind.u64.min = 0 := by decide
 have h2 : IntKind.u64.max = 18446744073709551615 := by decide
 simp [Lit.wf] at h
 omega
end
end Go.Proofs.YtoofbgoeipijcaaDoor
