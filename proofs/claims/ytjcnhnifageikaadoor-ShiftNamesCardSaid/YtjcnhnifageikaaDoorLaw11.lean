/-
  The walk of the law side's awake (the examples of the adder's chapter).
-/
import Derived.Test.YtjcnhnifageikaaDoorLaw10
import Derived.Test.YtjcnhnifageikaaDoorSem2
namespace Go.Proofs.YtjcnhnifageikaaDoor
set_option linter.unusedSimpArgs false
set_option linter.unusedVariables false
open Go.RowKit Go.Shelf

/-- Since w0 a circuit has been made; nothing that was there has turned. -/
structure St (w0 w : World) (bb n : Nat) (σ : Nat → Bool) (F : Form) (vin vval : Value) : Prop where
  c : Circ w bb n σ F vin vval
  fr : Below w0.heap.size w0 w
  lo : ∀ j, j < w0.heap.size → Away bb w j

section
variable {w0 w w' : World} {bb n : Nat} {σ σ' : Nat → Bool} {F F' : Form} {vin vval : Value}
theorem St.step (h : St w0 w bb n σ F vin vval) (hf : FrB bb w w') (hC : Circ w' bb n σ' F' vin vval) : St w0 w' bb n σ' F' vin vval :=
  ⟨hC, ⟨hf.os.trans h.fr.os, hf.tape.trans h.fr.tape, hf.output.trans h.fr.output, Nat.le_trans h.fr.size hf.size, fun j hj => (hf.keep j (h.lo j hj)).2.trans (h.fr.block j hj)⟩, fun j hj => (hf.keep j (h.lo j hj)).1⟩
theorem St.below (h : St w0 w bb n σ F vin vval) (hb : Below w.heap.size w w') : St w0 w' bb n σ F vin vval := h.step (FrB.of_below h.c.b hb) (h.c.below hb)
theorem St.al (h : St w0 w bb n σ F vin vval) (o : Obj) : St w0 (w.alloc o) bb n σ F vin vval := h.below ((Below.refl _ _).alloc (Nat.le_refl _) o)
/-- A list that is written out. -/
theorem St.lit (h : St w0 w bb n σ F vin vval) (xs : List Int) (t : TypeId) (hl : xs.length ≤ 1024) : Ints (Away bb (w.alloc (.cells (xs.map (Value.int .i64)).toArray t))) (w.alloc (.cells (xs.map (Value.int .i64)).toArray t)) (.slice (some ⟨w.heap.size, 0, none⟩) xs.length xs.length) xs :=
  ⟨_, _, by rw [List.length_map], by rw [List.length_map]; exact Nat.le_refl _, by unfold maxLen; omega, by rw [List.length_map]; omega, h.c.b.rowNew _ _⟩
theorem St.lits2 (h : St w0 w bb n σ F vin vval) (xs ys : List Int) (t : TypeId) (hx : xs.length ≤ 1024) (hy : ys.length ≤ 1024) (W : World) (hW : (w.alloc (.cells (xs.map (Value.int .i64)).toArray t)).alloc (.cells (ys.map (Value.int .i64)).toArray t) = W) :
    St w0 W bb n σ F vin vval ∧ Ints (Away bb W) W (.slice (some ⟨w.heap.size, 0, none⟩) xs.length xs.length) xs ∧ Ints (Away bb W) W (.slice (some ⟨w.heap.size + 1, 0, none⟩) ys.length ys.length) ys ∧ FrB bb w W := by
  subst hW
  have h1 := h.al (.cells (xs.map (Value.int .i64)).toArray t)
  have h2 := h1.lit ys t hy
  rw [World.size_alloc] at h2
  have f1 := FrB.of_below h.c.b ((Below.refl _ _).alloc (Nat.le_refl _) (.cells (xs.map (Value.int .i64)).toArray t))
  have f2 := FrB.of_below h1.c.b ((Below.refl _ _).alloc (Nat.le_refl _) (.cells (ys.map (Value.int .i64)).toArray t))
  exact ⟨h1.al _, (h.lit xs t hx).fr f2, h2, f1.trans f2⟩
theorem St.keepI (h : St w0 w bb n σ F vin vval) {v : Value} {xs : List Int} (hi : Ints (Away bb w) w v xs) (o : Obj) : Ints (Away bb (w.alloc o)) (w.alloc o) v xs := hi.fr (FrB.of_below h.c.b ((Below.refl _ _).alloc (Nat.le_refl _) o))
end

theorem ext_bits {n : Nat} {σ σ' : Nat → Bool} {F F' : Form} {a b : Nat} (h : Ext n σ F σ' F' a b) {xs : List Int} (hx : ∀ x ∈ xs, okLit F.vars x = true) : xs.map (litT σ') = xs.map (litT σ) := List.map_congr_left fun x hx' => h.litT (hx x hx')
theorem ext_ok {n : Nat} {σ σ' : Nat → Bool} {F F' : Form} {a b : Nat} (h : Ext n σ F σ' F' a b) {xs : List Int} (hx : ∀ x ∈ xs, okLit F.vars x = true) : ∀ x ∈ xs, okLit F'.vars x = true := fun x hx' => h.ok (hx x hx')

end Go.Proofs.YtjcnhnifageikaaDoor
