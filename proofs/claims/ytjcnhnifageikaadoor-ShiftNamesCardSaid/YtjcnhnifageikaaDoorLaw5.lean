/-
  The walk of the law side's Begin: a circuit with inputs.
-/
import Derived.Test.YtjcnhnifageikaaDoorLaw4
import Derived.Test.YtjcnhnifageikaaDoorDec2
import Derived.Test.YtjcnhnifageikaaDoorReg
import Derived.Test.YtjcnhnifageikaaDoorAdd6
import Derived.Deep.RegionLaw
import Derived.BigRegion
namespace Go.Proofs.YtjcnhnifageikaaDoor
set_option linter.unusedSimpArgs false
set_option linter.unusedVariables false
open Go.RowKit

/-- The value that a list has for number i, again and again. -/
def pickV (vals : List Bool) (i : Nat) : Bool := if 0 < vals.length then vals.getD (i % vals.length) false else false
/-- The values of a circuit at first. -/
def sigB (vals : List Bool) : Nat → Bool := fun v => if v = 1 then true else pickV vals (v - 2)
theorem sigB_one (vals : List Bool) : sigB vals 1 = true := rfl
theorem valsM_sig (n : Nat) (vals : List Bool) : valsM n (sigB vals) = (List.range n).map (pickV vals) := by
  unfold valsM
  exact List.map_congr_left fun i _ => by simp [sigB]
theorem insM_succ (k : Nat) : insM (k + 1) = insM k ++ [(k : Int) + 2] := by
  unfold insM; rw [List.range_succ, List.map_append]; rfl
theorem picks_succ (vals : List Bool) (k : Nat) : (List.range (k + 1)).map (pickV vals) = (List.range k).map (pickV vals) ++ [pickV vals k] := by
  rw [List.range_succ, List.map_append]; rfl

/-- What Begin's loop carries: the builder at bb, the circuit's box at C, the result's box at A. -/
structure BegI (bb A C : Nat) (w0 : World) (vals : List Bool) (k : Nat) (vin vval : Value) (w : World) : Prop where
  b : IsB w bb ⟨k + 1, [[1]]⟩
  aA : Away bb w A
  cA : w.heap[A]? = some (.cells #[.pointer none, .slice none 0 0, .slice none 0 0] 30 (0, 0))
  aC : Away bb w C
  cC : w.heap[C]? = some (.cells #[.pointer (some ⟨bb, 0, none⟩), vin, vval] 30 (0, 0))
  t : Two (C + 1) 3 4 w vin k ((insM k).map (Value.int .i64)) vval k (((List.range k).map (pickV vals)).map Value.bool)
  a1 : ∀ j, vin.ownBlock = some j → Away bb w j
  a2 : ∀ j, vval.ownBlock = some j → Away bb w j
  sz : C + 1 ≤ w.heap.size
  fr : Below w0.heap.size w0 w

section
variable {bb A C : Nat} {w0 w w2 : World} {vals : List Bool} {k : Nat} {vin vval v' : Value}

/-- Fresh is called. -/
theorem BegI.fresh (h : BegI bb A C w0 vals k vin vval w) (hbb : w0.heap.size ≤ bb) (hf : FrB bb w w2) (hB : IsB w2 bb ⟨k + 2, [[1]]⟩) (hlow : ∀ j, j < w0.heap.size → Away bb w j) :
    IsB w2 bb ⟨k + 2, [[1]]⟩ ∧ Away bb w2 A ∧ w2.heap[A]? = some (.cells #[.pointer none, .slice none 0 0, .slice none 0 0] 30 (0, 0)) ∧ Away bb w2 C ∧
      w2.heap[C]? = some (.cells #[.pointer (some ⟨bb, 0, none⟩), vin, vval] 30 (0, 0)) ∧ Two (C + 1) 3 4 w2 vin k ((insM k).map (Value.int .i64)) vval k (((List.range k).map (pickV vals)).map Value.bool) ∧
      (∀ j, vin.ownBlock = some j → Away bb w2 j) ∧ (∀ j, vval.ownBlock = some j → Away bb w2 j) ∧ C + 1 ≤ w2.heap.size ∧ Below w0.heap.size w0 w2 := by
  have kA := hf.keep _ h.aA
  have kC := hf.keep _ h.aC
  exact ⟨hB, kA.1, kA.2.trans h.cA, kC.1, kC.2.trans h.cC, ⟨owns_keep h.t.o1 fun j hj => (hf.keep j (h.a1 j hj)).2, owns_keep h.t.o2 fun j hj => (hf.keep j (h.a2 j hj)).2, h.t.ne⟩,
    fun j hj => (hf.keep j (h.a1 j hj)).1, fun j hj => (hf.keep j (h.a2 j hj)).1, Nat.le_trans h.sz hf.size,
    ⟨hf.os.trans h.fr.os, hf.tape.trans h.fr.tape, hf.output.trans h.fr.output, Nat.le_trans h.fr.size hf.size, fun j hj => (hf.keep j (hlow j hj)).2.trans (h.fr.block j hj)⟩⟩
end

/-- A row in a circuit's box grows, and is stored into the box: the parts that matter. -/
theorem beg_store {bb A C i : Nat} {w0 w w4 : World} {G : Form} {row v' : Value} {x : Value} {t : TypeId} {cs : Array Value} {base e m : Nat} {ys : List Value} (hB : IsB w bb G) (hA : Away bb w A) (hC : Away bb w C)
    (hcA : w.heap[A]? = some (.cells #[.pointer none, .slice none 0 0, .slice none 0 0] 30 (0, 0))) (hcC : w.heap[C]? = some (.cells cs 30 (0, 0)))
    (hrow : ∀ j, row.ownBlock = some j → Away bb w j ∧ C < j) (hAC : A < C) (hCs : C + 1 ≤ w.heap.size) (hA0 : w0.heap.size ≤ A) (hfr : Below w0.heap.size w0 w)
    (hg : (w.alloc (.cells #[x] t)).grownBy w4 row.ownBlock) (ho : w4.ownsRow base e 1 v' m ys) (hat : v'.ownBlock = row.ownBlock ∨ v'.ownBlock = some (w.alloc (.cells #[x] t)).heap.size) :
    IsB (w4.setCell ⟨C, i, none⟩ v') bb G ∧ Away bb (w4.setCell ⟨C, i, none⟩ v') A ∧ (w4.setCell ⟨C, i, none⟩ v').heap[A]? = some (.cells #[.pointer none, .slice none 0 0, .slice none 0 0] 30 (0, 0)) ∧
      Away bb (w4.setCell ⟨C, i, none⟩ v') C ∧ (w4.setCell ⟨C, i, none⟩ v').heap[C]? = some (.cells (cs.setIfInBounds i v') 30 (0, 0)) ∧
      (∀ j, v'.ownBlock = some j → Away bb (w4.setCell ⟨C, i, none⟩ v') j) ∧ (∀ j, Away bb w j → Away bb (w4.setCell ⟨C, i, none⟩ v') j) ∧ C + 1 ≤ (w4.setCell ⟨C, i, none⟩ v').heap.size ∧ Below w0.heap.size w0 (w4.setCell ⟨C, i, none⟩ v') ∧
      ∀ j, j ≠ C → some j ≠ row.ownBlock → j < w.heap.size → (w4.setCell ⟨C, i, none⟩ v').heap[j]? = w.heap[j]? := by
  have hgA := (World.grownBy_alloc w (.cells #[x] t) row.ownBlock).trans hg
  obtain ⟨b1, m1⟩ := hB.grown hgA (fun r e => (hrow r e).1)
  obtain ⟨b2, f2, m2⟩ := b1.far (m1 _ hC) i v'
  have hne : ∀ j, j ≤ C → some j ≠ row.ownBlock := fun j hj e => by have := (hrow j e.symm).2; omega
  have hs := hgA.size
  have hoth : ∀ j, j ≠ C → some j ≠ row.ownBlock → j < w.heap.size → (w4.setCell ⟨C, i, none⟩ v').heap[j]? = w.heap[j]? := fun j h1 h2 h3 => (Below.heap_setCell _ _ _ _ h1).trans (hgA.block j h3 h2)
  refine ⟨b2, m2 _ (m1 _ hA), (hoth A (by omega) (hne A (by omega)) (by omega)).trans hcA, m2 _ (m1 _ hC), heap_set_same ((hgA.block C (by omega) (hne C (by omega))).trans hcC) v', fun j hj => ?_, fun j hj => m2 _ (m1 _ hj), by rw [World.size_setCell]; omega,
    ⟨hgA.os.trans hfr.os, hgA.tape.trans hfr.tape, hgA.output.trans hfr.output, by rw [World.size_setCell]; have := hfr.size; omega, fun j hj => (hoth j (by omega) (hne j (by omega)) (by omega)).trans (hfr.block j hj)⟩, hoth⟩
  rcases hat with e | e
  · exact m2 _ (m1 _ (hrow j (by rw [← e]; exact hj)).1)
  · have hlt := (ho.lt j hj).2
    rw [e] at hj
    injection hj with hj
    rw [World.size_alloc] at hj
    exact m2 _ (hB.grown_new hgA (fun r e => (hrow r e).1) (by omega) hlt)

end Go.Proofs.YtjcnhnifageikaaDoor
