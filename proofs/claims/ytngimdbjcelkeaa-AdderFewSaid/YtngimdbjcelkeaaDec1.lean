/-
  What the reference's Decide carries in memory, and its steps.
-/
import Derived.Test.YtngimdbjcelkeaaDec0
import Derived.Test.YtngimdbjcelkeaaGood
namespace Go.Proofs.Ytngimdbjcelkeaa
set_option linter.unusedSimpArgs false
set_option linter.unusedVariables false
open Go.RowKit

/-- The formula's box, what is known, the places, the work. -/
structure DecM (w0 : World) (vars : Int) (vc : Value) (k : List Int) (pl : List (List Int)) (vw : Value) (work : List Int) (wr : World) : Prop where
  below : Below w0.heap.size w0 wr
  b0 : wr.heap[w0.heap.size]? = some (.cells #[.int .i64 vars, vc] 52 (0, 0))
  bk : wr.heap[w0.heap.size + 1]? = some (.cells (k.map (Value.int .i8)).toArray 140 (0, 0))
  pl : PlI (w0.heap.size + 3) (w0.heap.size + 2) pl wr
  wk : wr.ownsRow (w0.heap.size + 3) 3 1 vw work.length (work.map (Value.int .i64))
  ne : ∀ g, vw.ownBlock = some g → ¬ PlBlk wr (w0.heap.size + 2) g

section
variable {w0 wr : World} {vars : Int} {vc vw : Value} {k work : List Int} {pl : List (List Int)}

theorem DecM.drewN (h : DecM w0 vars vc k pl vw work wr) (m : Nat) : DecM w0 vars vc k pl vw work (wr.drewN m) :=
  ⟨⟨h.below.os, h.below.tape, h.below.output, h.below.size, h.below.block⟩, h.b0, h.bk, ⟨h.pl.lt, h.pl.bs, h.pl.ex⟩, h.wk, h.ne⟩

theorem DecM.size (h : DecM w0 vars vc k pl vw work wr) : w0.heap.size + 3 ≤ wr.heap.size := h.pl.bs

theorem DecM.krow (h : DecM w0 vars vc k pl vw work wr) : RowR (· < wr.heap.size) wr (some ⟨w0.heap.size + 1, 0, none⟩) (k.map (Value.int .i8)) :=
  .inr ⟨_, 0, rfl, by have := h.size; omega, fun j hj => by rw [Nat.zero_add, cell_of_cells h.bk]; simp at hj; simp [hj]⟩

/-- A step that keeps everything from the start on below its size, but one block of the row that is appended to. -/
theorem DecM.place (h : DecM w0 vars vc k pl vw work wr) (a : Nat) (ha : a < pl.length) (x : Int) {v v' : Value} {w' : World} (hv : wr.cell? ⟨w0.heap.size + 2, a, none⟩ = some v) (hg : wr.grownBy w' v.ownBlock)
    (hown : w'.ownsRow (w0.heap.size + 3) 3 1 v' (pl[a].length + 1) (pl[a].map (Value.int .i64) ++ [.int .i64 x])) (hat : v'.ownBlock = v.ownBlock ∨ ∃ g, wr.heap.size ≤ g ∧ v'.ownBlock = some g) :
    DecM w0 vars vc k (pl.set a (pl[a] ++ [x])) vw work (w'.setCell ⟨w0.heap.size + 2, a, none⟩ v') := by
  have hsz := h.size
  obtain ⟨v2, hv2, _, hvo, hvb⟩ := h.pl.at a ha
  rw [hv] at hv2; injection hv2 with hv2; subst hv2
  have hvlt := hvo.lt
  have hs' := hg.size
  have hb : ∀ j, j < wr.heap.size → (∀ g, v.ownBlock = some g → j ≠ g) → j ≠ w0.heap.size + 2 → (w'.setCell ⟨w0.heap.size + 2, a, none⟩ v').heap[j]? = wr.heap[j]? :=
    fun j h1 h2 h3 => (Below.heap_setCell _ _ _ _ h3).trans (hg.block j h1 (fun e => h2 j e.symm rfl))
  have hlow : ∀ j, j < w0.heap.size + 3 → j ≠ w0.heap.size + 2 → (w'.setCell ⟨w0.heap.size + 2, a, none⟩ v').heap[j]? = wr.heap[j]? :=
    fun j h1 h2 => hb j (by omega) (fun g hg' => by have := (hvlt g hg').1; omega) h2
  obtain ⟨p1, p2⟩ := h.pl.store a ha x hv hg hown hat
  have hwlt := h.wk.lt
  refine ⟨⟨hg.os.trans h.below.os, hg.tape.trans h.below.tape, hg.output.trans h.below.output, by rw [World.size_setCell]; omega, fun j hj => (hlow j (by omega) (by omega)).trans (h.below.block j hj)⟩,
    (hlow _ (by omega) (by omega)).trans h.b0, (hlow _ (by omega) (by omega)).trans h.bk, p1, owns_keep h.wk fun g hg' => ?_, fun g hg' hp => ?_⟩
  · have := hwlt g hg'
    exact hb g this.2 (fun g2 hg2 e => h.ne g hg' (by subst e; exact hvb g hg2)) (by omega)
  · rcases p2 g hp with h1 | h1
    · exact h.ne g hg' h1
    · have := (hwlt g hg').2; omega

/-- The work grows. -/
theorem DecM.push (h : DecM w0 vars vc k pl vw work wr) (ys : List Int) {v' : Value} {w' : World} (hg : wr.grownBy w' vw.ownBlock)
    (hown : w'.ownsRow (w0.heap.size + 3) 3 1 v' (work.length + ys.length) (work.map (Value.int .i64) ++ ys.map (Value.int .i64))) (hat : v'.ownBlock = vw.ownBlock ∨ ∃ g, wr.heap.size ≤ g ∧ v'.ownBlock = some g) :
    DecM w0 vars vc k pl v' (work ++ ys) w' := by
  have hsz := h.size
  have hwlt := h.wk.lt
  have hs' := hg.size
  have hlow : ∀ j, j < w0.heap.size + 3 → w'.heap[j]? = wr.heap[j]? := fun j h1 => hg.block j (by omega) (fun e => by have := (hwlt j e.symm).1; omega)
  obtain ⟨p1, p2⟩ := h.pl.keep hs' (hlow _ (by omega)) (fun g hp => hg.block g (h.pl.blk hp).2 (fun e => h.ne g e.symm hp))
  refine ⟨⟨hg.os.trans h.below.os, hg.tape.trans h.below.tape, hg.output.trans h.below.output, by have := h.below.size; omega, fun j hj => (hlow j (by omega)).trans (h.below.block j hj)⟩,
    (hlow _ (by omega)).trans h.b0, (hlow _ (by omega)).trans h.bk, p1, by rw [List.length_append, List.map_append]; exact hown, fun g hg' hp => ?_⟩
  rcases hat with e | ⟨g2, h2, e⟩
  · rw [e] at hg'; exact h.ne g hg' (p2 g hp)
  · rw [e] at hg'; injection hg' with hg'
    have := (h.pl.blk (p2 g hp)).2; omega

theorem owns_pop {w : World} {base e n : Nat} {p : Option Addr} {c : Nat} {xs : List Value} {x : Value} (h : w.ownsRow base e 1 (.slice p (n + 1) c) (n + 1) (xs ++ [x])) (hn : xs.length = n) : w.ownsRow base e 1 (.slice p n c) n xs := by
  rcases h.2 with ⟨h1, h2⟩ | ⟨g, cap, cur, hv, hb, hg, hnc, hcm, hcs, ht⟩
  · omega
  · injection hv with e1 e2 e3
    subst e1 e3
    refine ⟨by omega, .inr ⟨g, c, cur, rfl, hb, hg, by omega, hcm, hcs, ?_⟩⟩
    have := congrArg (List.take n) ht
    rw [List.take_take, List.take_append_of_le_length (by omega), List.take_of_length_le (by omega : xs.length ≤ n)] at this
    rw [← this]
    congr 1
    omega
theorem ownBlock_len {p : Option Addr} {n m c d : Nat} : (Value.slice p n c).ownBlock = (Value.slice p m d).ownBlock := by cases p <;> rfl

/-- The last of the work is taken off. -/
theorem DecM.pop {p : Option Addr} {c : Nat} {x : Int} (h : DecM w0 vars vc k pl (.slice p (work.length + 1) c) (work ++ [x]) wr) : DecM w0 vars vc k pl (.slice p work.length c) work wr := by
  have hw := h.wk
  rw [List.length_append, List.map_append] at hw
  exact ⟨h.below, h.b0, h.bk, h.pl, owns_pop hw (by simp), fun g hg => h.ne g (by rw [← hg]; exact ownBlock_len)⟩

/-- Something is known. -/
theorem DecM.known (h : DecM w0 vars vc k pl vw work wr) (v : Nat) (hv : v < k.length) (x : Int) : DecM w0 vars vc (k.set v x) pl vw work (wr.setCell ⟨w0.heap.size + 1, v, none⟩ (.int .i8 x)) := by
  have hsz := h.size
  have hwlt := h.wk.lt
  have hb : ∀ j, j ≠ w0.heap.size + 1 → (wr.setCell ⟨w0.heap.size + 1, v, none⟩ (.int .i8 x)).heap[j]? = wr.heap[j]? := fun j hj => Below.heap_setCell _ _ _ _ hj
  obtain ⟨p1, p2⟩ := h.pl.keep (w' := wr.setCell ⟨w0.heap.size + 1, v, none⟩ (.int .i8 x)) (by rw [World.size_setCell]; exact Nat.le_refl _) (hb _ (by omega)) (fun g hp => hb g (by have := (h.pl.blk hp).1; omega))
  refine ⟨⟨h.below.os, h.below.tape, h.below.output, by rw [World.size_setCell]; exact h.below.size, fun j hj => (hb j (by omega)).trans (h.below.block j hj)⟩, (hb _ (by omega)).trans h.b0, ?_, p1,
    owns_keep h.wk fun g hg => hb g (by have := (hwlt g hg).1; omega), fun g hg hp => h.ne g hg (p2 g hp)⟩
  rw [heap_set_same h.bk]
  congr 2
  simp [List.map_set]

/-- The last of the work, as a walk reads it. -/
theorem DecM.last {x : Int} (h : DecM w0 vars vc k pl vw (work ++ [x]) wr) : ∃ g c, vw = .slice (some ⟨g, 0, none⟩) (work.length + 1) c ∧ wr.cell? ⟨g, work.length, none⟩ = some (.int .i64 x) ∧ work.length + 1 ≤ c := by
  have hw := h.wk
  rw [List.length_append, List.map_append] at hw
  obtain ⟨hl, h1 | ⟨g, cap, cur, rfl, hb, hg, rest⟩⟩ := hw
  · exact absurd h1.2 (by simp)
  · refine ⟨g, cap, rfl, ?_, by have := rest.1; simp at this; omega⟩
    have := World.ownsRow.cellAt (w := wr) (base := w0.heap.size + 3) (e := 3) (size := 1) (g := g) (cap := cap) (n := work.length + 1) (xs := work.map (Value.int .i64) ++ [x].map (Value.int .i64)) ⟨hl, .inr ⟨g, cap, cur, rfl, hb, hg, rest⟩⟩ work.length (by omega)
    rw [this]
    simp

/-- What is known of a variable, as a walk reads and writes it. -/
theorem DecM.kcell (h : DecM w0 vars vc k pl vw work wr) (v : Nat) (hv : v < k.length) : wr.cell? ⟨w0.heap.size + 1, v, none⟩ = some (.int .i8 k[v]) ∧ wr.frozen? ⟨w0.heap.size + 1, v, none⟩ = false :=
  ⟨by rw [cell_of_cells h.bk]; simp [hv], frozen_of_cells h.bk⟩

def lenV : Value → Nat
  | .slice _ n _ => n
  | _ => 0
def isZ : Value → Bool
  | .int _ z => z == 0
  | _ => false
def zerosW (w : World) (b : Nat) : Nat :=
  match w.heap[b]? with
  | some (.cells cs _ _) => cs.toList.countP isZ
  | _ => 0
theorem DecM.zeros (h : DecM w0 vars vc k pl vw work wr) : zerosW wr (w0.heap.size + 1) = k.count 0 := by
  unfold zerosW
  rw [h.bk]
  show ((k.map (Value.int .i8)).toArray.toList).countP isZ = _
  rw [List.count, List.countP_map]
  congr 1
end

end Go.Proofs.Ytngimdbjcelkeaa
