/-
  Package adder's functions over a circuit: what they come to, as values.
-/
import Derived.Test.YtjcnhnifageikaaDoorVal
import Derived.Test.YtjcnhnifageikaaDoorLaw3
import Derived.Test.YtjcnhnifageikaaDoorAdd8
import Derived.Test.YtjcnhnifageikaaDoorAdd9
import Derived.Test.YtjcnhnifageikaaDoorAdd10
import Derived.Test.YtjcnhnifageikaaDoorAdd11
namespace Go.Proofs.YtjcnhnifageikaaDoor
set_option linter.unusedSimpArgs false
set_option linter.unusedVariables false
open Go.RowKit

/-- A word over a circuit. -/
def WC (bb n : Nat) (σ : Nat → Bool) (F : Form) (vin vval : Value) (w : World) (bs : List Bool) (dv dc : Nat) (e : Ending) (w' : World) : Prop :=
  ∃ v zs σ' F', e = .returned (.tuple #[v, .int .i64 0]) ∧ Circ w' bb n σ' F' vin vval ∧ Ints (Away bb w') w' v zs ∧ (∀ x ∈ zs, okLit F'.vars x = true) ∧ zs.map (litT σ') = bs ∧ FrB bb w w' ∧ Ext n σ F σ' F' dv dc
/-- A literal over a circuit. -/
def LC (bb n : Nat) (σ : Nat → Bool) (F : Form) (vin vval : Value) (w : World) (b : Bool) (dv dc : Nat) (e : Ending) (w' : World) : Prop :=
  ∃ z σ' F', e = .returned (.tuple #[.int .i64 z, .int .i64 0]) ∧ Circ w' bb n σ' F' vin vval ∧ okLit F'.vars z = true ∧ litT σ' z = b ∧ FrB bb w w' ∧ Ext n σ F σ' F' dv dc

section
variable {bb n : Nat} {σ : Nat → Bool} {F : Form} {vin vval vx vy : Value} {w : World} {xs ys : List Int}

theorem WC.of (hC : Circ w bb n σ F vin vval) {r : WOut} {bs : List Bool} {dv dc : Nat} (ho : WordOk n σ F r bs dv dc) {e : Ending} {w' : World} (h : WPost bb w r e w') : WC bb n σ F vin vval w bs dv dc e w' := by
  obtain ⟨v, he, hi, hB, hf⟩ := h
  obtain ⟨h0, σ', hx, hok, hb⟩ := ho
  rw [h0] at he
  exact ⟨v, r.1, σ', r.2.2, he, hC.step hf hB hx, hi, hok, hb, hf, hx⟩
theorem LC.of (hC : Circ w bb n σ F vin vval) {r : Out} {b : Bool} {dv dc : Nat} (ho : LitOk n σ F r b dv dc) {e : Ending} {w' : World} (h : GatePost bb w r e w') : LC bb n σ F vin vval w b dv dc e w' := by
  obtain ⟨he, hB, hf⟩ := h
  obtain ⟨h0, σ', hx, hok, hb⟩ := ho
  rw [h0] at he
  exact ⟨r.1, σ', r.2.2, he, hC.step hf hB hx, hok, hb, hf, hx⟩

theorem lit_i64 {n : Nat} (hn : n ≤ 1048576) {x : Int} (h : okLit n x = true) : -9223372036854775807 ≤ x ∧ x ≤ 9223372036854775807 := by
  have := Bd.lit hn h; unfold Bd at this; omega
theorem lits_two {n : Nat} (hn : n ≤ 1048576) {xs ys : List Int} (hx : ∀ x ∈ xs, okLit n x = true) (hy : ∀ y ∈ ys, okLit n y = true) : ∀ l ∈ [xs, ys], ∀ x ∈ l, -9223372036854775807 ≤ x ∧ x ≤ 9223372036854775807 := fun l hl x hx' => by
  simp only [List.mem_cons, List.not_mem_nil, or_false] at hl
  rcases hl with rfl | rfl
  · exact lit_i64 hn (hx x hx')
  · exact lit_i64 hn (hy x hx')
theorem lits_three {n : Nat} (hn : n ≤ 1048576) {c : Int} {xs ys : List Int} (hc : okLit n c = true) (hx : ∀ x ∈ xs, okLit n x = true) (hy : ∀ y ∈ ys, okLit n y = true) : ∀ l ∈ [c] :: [xs, ys], ∀ x ∈ l, -9223372036854775807 ≤ x ∧ x ≤ 9223372036854775807 := fun l hl x hx' => by
  rcases List.mem_cons.1 hl with rfl | hl
  · simp at hx'; subst hx'; exact lit_i64 hn hc
  · exact lits_two hn hx hy l hl x hx'

variable (hC : Circ w bb n σ F vin vval) (h1 : 1 ≤ xs.length) (h64 : xs.length ≤ 64) (hl : ys.length = xs.length)
  (hx : ∀ x ∈ xs, okLit F.vars x = true) (hy : ∀ y ∈ ys, okLit F.vars y = true) (ix : Ints (Away bb w) w vx xs) (iy : Ints (Away bb w) w vy ys)
include hC h1 h64 hl hx hy ix iy

theorem choose_c {c : Int} (hc : okLit F.vars c = true) (hv : F.vars + xs.length < 1048576) (hk : F.cls.length + 6 * xs.length ≤ 1048576) :
    Calls Tryd.prog 23 #[.pointer (some ⟨bb, 0, none⟩), .int .i64 c, vx, vy] w (WC bb n σ F vin vval w (chooseB (litT σ c) (xs.map (litT σ)) (ys.map (litT σ))) xs.length (6 * xs.length)) :=
  (choose_any bb F c xs ys vx vy w hC.b ix iy (lits_three hC.b.vars hc hx hy)).mono fun _ _ h => WC.of hC (choose_good hC.good h1 h64 hl hc hx hy hv hk) h
end

end Go.Proofs.YtjcnhnifageikaaDoor
