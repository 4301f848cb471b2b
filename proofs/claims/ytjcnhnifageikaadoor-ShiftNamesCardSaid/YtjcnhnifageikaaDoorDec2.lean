/-
  Memory of the reference's Decide: a row of rows that grow, each in a block of its own.
  What the reference's Decide carries in memory, and its steps.
  What the reference's Decide carries, in plain lists. No program in sight.
-/
import Derived.Test.YtjcnhnifageikaaDoorLaw2
import Derived.Test.YtjcnhnifageikaaDoorGood
namespace Go.Proofs.YtjcnhnifageikaaDoor
set_option linter.unusedSimpArgs false
set_option linter.unusedVariables false
open Go.RowKit

/-- Block g is that of a row of the rows at block Bp. -/
def PlBlk (w : World) (Bp g : Nat) : Prop := ∃ cur t fz, w.heap[Bp]? = some (.cells cur t fz) ∧ ∃ (a : Nat) (v : Value), cur[a]? = some v ∧ v.ownBlock = some g

/-- At block Bp lie rows that read as pl, each owned, no two in one block. -/
structure PlI (base Bp : Nat) (pl : List (List Int)) (w : World) : Prop where
  lt : Bp < base
  bs : base ≤ w.heap.size
  ex : ∃ cur : Array Value, w.heap[Bp]? = some (.cells cur 23 (0, 0)) ∧ cur.size = pl.length ∧
    (∀ a (h : a < pl.length) (h' : a < cur.size), w.ownsRow base 3 1 cur[a] pl[a].length (pl[a].map (Value.int .i64))) ∧
    ∀ a b (ha : a < cur.size) (hb : b < cur.size), a ≠ b → ∀ g, cur[a].ownBlock = some g → cur[b].ownBlock ≠ some g

theorem PlI.blk {base Bp g : Nat} {pl : List (List Int)} {w : World} (h : PlI base Bp pl w) (hg : PlBlk w Bp g) : base ≤ g ∧ g < w.heap.size := by
  obtain ⟨cur, hc, hs, ho, _⟩ := h.ex
  obtain ⟨cur', t, fz, hc', a, v, ha, hv⟩ := hg
  rw [hc] at hc'
  simp only [Option.some.injEq, Obj.cells.injEq] at hc'
  obtain ⟨rfl, -, -⟩ := hc'
  obtain ⟨hlt, rfl⟩ := Array.getElem?_eq_some_iff.1 ha
  exact (ho a (by omega) hlt).lt g hv

theorem PlI.at {base Bp : Nat} {pl : List (List Int)} {w : World} (h : PlI base Bp pl w) (a : Nat) (ha : a < pl.length) :
    ∃ v, w.cell? ⟨Bp, a, none⟩ = some v ∧ w.frozen? ⟨Bp, a, none⟩ = false ∧ w.ownsRow base 3 1 v pl[a].length (pl[a].map (Value.int .i64)) ∧ ∀ g, v.ownBlock = some g → PlBlk w Bp g := by
  obtain ⟨cur, hc, hs, ho, _⟩ := h.ex
  have h1 : a < cur.size := by omega
  exact ⟨cur[a], by rw [cell_of_cells hc, Array.getElem?_eq_getElem h1], frozen_of_cells hc, ho a ha h1, fun g hg => ⟨cur, _, _, hc, a, cur[a], Array.getElem?_eq_getElem h1, hg⟩⟩

theorem PlI.keep {base Bp : Nat} {pl : List (List Int)} {w w' : World} (h : PlI base Bp pl w) (hs : w.heap.size ≤ w'.heap.size) (hb : w'.heap[Bp]? = w.heap[Bp]?) (hk : ∀ g, PlBlk w Bp g → w'.heap[g]? = w.heap[g]?) :
    PlI base Bp pl w' ∧ ∀ g, PlBlk w' Bp g → PlBlk w Bp g := by
  obtain ⟨cur, hc, hsz, ho, hd⟩ := h.ex
  refine ⟨⟨h.lt, Nat.le_trans h.bs hs, cur, hb.trans hc, hsz, fun a h1 h2 => owns_keep (ho a h1 h2) fun j hj => hk j ⟨cur, _, _, hc, a, _, Array.getElem?_eq_getElem h2, hj⟩, hd⟩, ?_⟩
  rintro g ⟨cur', t, fz, hc', r⟩
  exact ⟨cur', t, fz, hb.symm.trans hc', r⟩

theorem PlI.store {base Bp : Nat} {pl : List (List Int)} {w w' : World} (h : PlI base Bp pl w) (a : Nat) (ha : a < pl.length) (x : Int) {v v' : Value} (hv : w.cell? ⟨Bp, a, none⟩ = some v) (hg : w.grownBy w' v.ownBlock)
    (hown : w'.ownsRow base 3 1 v' (pl[a].length + 1) (pl[a].map (Value.int .i64) ++ [.int .i64 x])) (hat : v'.ownBlock = v.ownBlock ∨ ∃ g, w.heap.size ≤ g ∧ v'.ownBlock = some g) :
    PlI base Bp (pl.set a (pl[a] ++ [x])) (w'.setCell ⟨Bp, a, none⟩ v') ∧ ∀ g, PlBlk (w'.setCell ⟨Bp, a, none⟩ v') Bp g → PlBlk w Bp g ∨ w.heap.size ≤ g := by
  have hblk := fun g => @PlI.blk base Bp g pl w h
  have hlt := h.lt
  have hbs := h.bs
  have hat0 := h.at a ha
  obtain ⟨cur, hc, hsz, ho, hd⟩ := h.ex
  have h1 : a < cur.size := by omega
  have hva : v = cur[a] := by rw [cell_of_cells hc, Array.getElem?_eq_getElem h1] at hv; injection hv with hv; exact hv.symm
  subst hva
  have hb' : ∀ j, j < w.heap.size → some j ≠ cur[a].ownBlock → j ≠ Bp → (w'.setCell ⟨Bp, a, none⟩ v').heap[j]? = w.heap[j]? := fun j h1 h2 h3 => (Below.heap_setCell _ _ _ _ h3).trans (hg.block j h1 h2)
  have hownlt := (ho a ha h1).lt
  have hBp : some Bp ≠ cur[a].ownBlock := fun e => by have := (hownlt Bp e.symm).1; omega
  have hc' : (w'.setCell ⟨Bp, a, none⟩ v').heap[Bp]? = some (.cells (cur.setIfInBounds a v') 23 (0, 0)) := heap_set_same ((hg.block Bp (by omega) hBp).trans hc) v'
  have hvlt := hown.lt
  have hsw := hg.size
  refine ⟨⟨h.lt, by rw [World.size_setCell]; omega, cur.setIfInBounds a v', hc', by simp [hsz], fun j hj hj' => ?_, fun j k hj hk hne g hjg hkg => ?_⟩, ?_⟩
  · by_cases hja : j = a
    · subst hja
      have e1 : (cur.setIfInBounds j v')[j] = v' := by simp
      have e2 : (pl.set j (pl[j] ++ [x]))[j] = pl[j] ++ [x] := by simp
      rw [e1, e2, List.length_append, List.map_append]
      exact owns_keep hown fun g hg' => Below.heap_setCell _ _ _ _ (by have := (hvlt g hg').1; show g ≠ Bp; omega)
    · have hj1 : j < pl.length := by simpa using hj
      have hj2 : j < cur.size := by omega
      have e1 : (cur.setIfInBounds a v')[j] = cur[j] := Array.getElem_setIfInBounds_ne _ (by omega)
      have e2 : (pl.set a (pl[a] ++ [x]))[j] = pl[j] := by rw [List.getElem_set_ne (by omega)]
      rw [e1, e2]
      exact owns_keep (ho j hj1 hj2) fun g hg' => by
        have := (ho j hj1 hj2).lt g hg'
        exact hb' g this.2 (fun e => hd j a hj2 h1 hja g hg' e.symm) (by omega)
  · have hj2 : j < cur.size := by simpa using hj
    have hk2 : k < cur.size := by simpa using hk
    by_cases hja : j = a
    · subst hja
      have e1 : (cur.setIfInBounds j v')[j] = v' := by simp
      have e2 : (cur.setIfInBounds j v')[k] = cur[k] := Array.getElem_setIfInBounds_ne _ hne
      rw [e1] at hjg
      rw [e2] at hkg
      rcases hat with e | ⟨g', hg', e⟩
      · rw [e] at hjg; exact hd j k h1 hk2 hne g hjg hkg
      · rw [e] at hjg; injection hjg with hjg
        have := ((ho k (by omega) hk2).lt g hkg).2
        omega
    · have e1 : (cur.setIfInBounds a v')[j] = cur[j] := Array.getElem_setIfInBounds_ne _ (by omega)
      rw [e1] at hjg
      by_cases hka : k = a
      · subst hka
        have e2 : (cur.setIfInBounds k v')[k] = v' := by simp
        rw [e2] at hkg
        rcases hat with e | ⟨g', hg', e⟩
        · rw [e] at hkg; exact hd j k hj2 h1 hne g hjg hkg
        · rw [e] at hkg; injection hkg with hkg
          have := ((ho j (by omega) hj2).lt g hjg).2
          omega
      · have e2 : (cur.setIfInBounds a v')[k] = cur[k] := Array.getElem_setIfInBounds_ne _ (by omega)
        rw [e2] at hkg
        exact hd j k hj2 hk2 hne g hjg hkg
  · rintro g ⟨cur', t, fz, hc2, j, u, hj, hu⟩
    rw [hc'] at hc2
    simp only [Option.some.injEq, Obj.cells.injEq] at hc2
    obtain ⟨rfl, -, -⟩ := hc2
    obtain ⟨hj', rfl⟩ := Array.getElem?_eq_some_iff.1 hj
    have hj2 : j < cur.size := by simpa using hj'
    by_cases hja : j = a
    · subst hja
      have e1 : (cur.setIfInBounds j v')[j] = v' := by simp
      rw [e1] at hu
      rcases hat with e | ⟨g', hg', e⟩
      · rw [e] at hu; exact .inl ⟨cur, _, _, hc, j, _, Array.getElem?_eq_getElem hj2, hu⟩
      · rw [e] at hu; injection hu with hu; exact .inr (by omega)
    · have e1 : (cur.setIfInBounds a v')[j] = cur[j] := Array.getElem_setIfInBounds_ne _ (by omega)
      rw [e1] at hu
      exact .inl ⟨cur, _, _, hc, j, _, Array.getElem?_eq_getElem hj2, hu⟩

/-- The rows at first: all empty. -/
theorem PlI.start {base Bp n : Nat} {w : World} (h : Bp < base) (hb : base ≤ w.heap.size) (hc : w.heap[Bp]? = some (.cells (Array.replicate n (.slice none 0 0)) 23 (0, 0))) : PlI base Bp (List.replicate n []) w ∧ ∀ g, ¬ PlBlk w Bp g := by
  refine ⟨⟨h, hb, _, hc, by simp, fun a h1 h2 => ?_, fun a b ha hb' hne g hg => ?_⟩, ?_⟩
  · simp only [Array.getElem_replicate, List.getElem_replicate]
    exact World.ownsRow_nil _ _ _ _
  · simp [Value.ownBlock] at hg
  · rintro g ⟨cur, t, fz, hc', a, v, ha, hv⟩
    rw [hc] at hc'
    simp only [Option.some.injEq, Obj.cells.injEq] at hc'
    obtain ⟨rfl, -, -⟩ := hc'
    obtain ⟨hlt, rfl⟩ := Array.getElem?_eq_some_iff.1 ha
    simp [Value.ownBlock] at hv

end Go.Proofs.YtjcnhnifageikaaDoor

namespace Go.Proofs.YtjcnhnifageikaaDoor
set_option linter.unusedSimpArgs false
set_option linter.unusedVariables false
open Go.RowKit

/-- The formula's box, what is known, the places, the work. -/
structure DecM (w0 : World) (vars : Int) (vc : Value) (k : List Int) (pl : List (List Int)) (vw : Value) (work : List Int) (wr : World) : Prop where
  below : Below w0.heap.size w0 wr
  b0 : wr.heap[w0.heap.size]? = some (.cells #[.int .i64 vars, vc] 52 (0, 0))
  bk : wr.heap[w0.heap.size + 1]? = some (.cells (k.map (Value.int .i8)).toArray 80 (0, 0))
  pl : PlI (w0.heap.size + 3) (w0.heap.size + 2) pl wr
  wk : wr.ownsRow (w0.heap.size + 3) 3 1 vw work.length (work.map (Value.int .i64))
  ne : ∀ g, vw.ownBlock = some g → ¬ PlBlk wr (w0.heap.size + 2) g

section
variable {w0 wr : World} {vars : Int} {vc vw : Value} {k work : List Int} {pl : List (List Int)}

theorem DecM.drewN (h : DecM w0 vars vc k pl vw work wr) (m : Nat) : DecM w0 vars vc k pl vw work (wr.drewN m) :=
  ⟨⟨h.below.os, h.below.tape, h.below.output, h.below.size, h.below.block⟩, h.b0, h.bk, ⟨h.pl.lt, h.pl.bs, h.pl.ex⟩, h.wk, h.ne⟩

theorem DecM.size (h : DecM w0 vars vc k pl vw work wr) : w0.heap.size + 3 ≤ wr.heap.size := h.pl.bs

theorem DecM.krow (h : DecM w0 vars vc k pl vw work wr) : RowR (· < wr.heap.size) wr (some ⟨w0.heap.size + 1, 0, none⟩) (k.map (Value.int .i8)) :=
  .inr ⟨_, 0, rfl, by have := h.size; omega, fun j hj => by rw [Nat.zero_add, cell_of_cells h.bk]; simp at hj; simp [hj]⟩

/-- A step that keeps everything from the start on below its size, but one block of the row that is appended to. -/
theorem DecM.place (h : DecM w0 vars vc k pl vw work wr) (a : Nat) (ha : a < pl.length) (x : Int) {v v' : Value} {w' : World} (hv : wr.cell? ⟨w0.heap.size + 2, a, none⟩ = some v) (hg : wr.grownBy w' v.ownBlock)
    (hown : w'.ownsRow (w0.heap.size + 3) 3 1 v' (pl[a].length + 1) (pl[a].map (Value.int .i64) ++ [.int .i64 x])) (hat : v'.ownBlock = v.ownBlock ∨ ∃ g, wr.heap.size ≤ g ∧ v'.ownBlock = some g) :
    DecM w0 vars vc k (pl.set a (pl[a] ++ [x])) vw work (w'.setCell ⟨w0.heap.size + 2, a, none⟩ v') := by
  have hsz := h.size
  obtain ⟨v2, hv2, _, hvo, hvb⟩ := h.pl.at a ha
  rw [hv] at hv2; injection hv2 with hv2; subst hv2
  have hvlt := hvo.lt
  have hs' := hg.size
  have hb : ∀ j, j < wr.heap.size → (∀ g, v.ownBlock = some g → j ≠ g) → j ≠ w0.heap.size + 2 → (w'.setCell ⟨w0.heap.size + 2, a, none⟩ v').heap[j]? = wr.heap[j]? :=
    fun j h1 h2 h3 => (Below.heap_setCell _ _ _ _ h3).trans (hg.block j h1 (fun e => h2 j e.symm rfl))
  have hlow : ∀ j, j < w0.heap.size + 3 → j ≠ w0.heap.size + 2 → (w'.setCell ⟨w0.heap.size + 2, a, none⟩ v').heap[j]? = wr.heap[j]? :=
    fun j h1 h2 => hb j (by omega) (fun g hg' => by have := (hvlt g hg').1; omega) h2
  obtain ⟨p1, p2⟩ := h.pl.store a ha x hv hg hown hat
  have hwlt := h.wk.lt
  refine ⟨⟨hg.os.trans h.below.os, hg.tape.trans h.below.tape, hg.output.trans h.below.output, by rw [World.size_setCell]; omega, fun j hj => (hlow j (by omega) (by omega)).trans (h.below.block j hj)⟩,
    (hlow _ (by omega) (by omega)).trans h.b0, (hlow _ (by omega) (by omega)).trans h.bk, p1, owns_keep h.wk fun g hg' => ?_, fun g hg' hp => ?_⟩
  · have := hwlt g hg'
    exact hb g this.2 (fun g2 hg2 e => h.ne g hg' (by subst e; exact hvb g hg2)) (by omega)
  · rcases p2 g hp with h1 | h1
    · exact h.ne g hg' h1
    · have := (hwlt g hg').2; omega

/-- The work grows. -/
theorem DecM.push (h : DecM w0 vars vc k pl vw work wr) (ys : List Int) {v' : Value} {w' : World} (hg : wr.grownBy w' vw.ownBlock)
    (hown : w'.ownsRow (w0.heap.size + 3) 3 1 v' (work.length + ys.length) (work.map (Value.int .i64) ++ ys.map (Value.int .i64))) (hat : v'.ownBlock = vw.ownBlock ∨ ∃ g, wr.heap.size ≤ g ∧ v'.ownBlock = some g) :
    DecM w0 vars vc k pl v' (work ++ ys) w' := by
  have hsz := h.size
  have hwlt := h.wk.lt
  have hs' := hg.size
  have hlow : ∀ j, j < w0.heap.size + 3 → w'.heap[j]? = wr.heap[j]? := fun j h1 => hg.block j (by omega) (fun e => by have := (hwlt j e.symm).1; omega)
  obtain ⟨p1, p2⟩ := h.pl.keep hs' (hlow _ (by omega)) (fun g hp => hg.block g (h.pl.blk hp).2 (fun e => h.ne g e.symm hp))
  refine ⟨⟨hg.os.trans h.below.os, hg.tape.trans h.below.tape, hg.output.trans h.below.output, by have := h.below.size; omega, fun j hj => (hlow j (by omega)).trans (h.below.block j hj)⟩,
    (hlow _ (by omega)).trans h.b0, (hlow _ (by omega)).trans h.bk, p1, by rw [List.length_append, List.map_append]; exact hown, fun g hg' hp => ?_⟩
  rcases hat with e | ⟨g2, h2, e⟩
  · rw [e] at hg'; exact h.ne g hg' (p2 g hp)
  · rw [e] at hg'; injection hg' with hg'
    have := (h.pl.blk (p2 g hp)).2; omega

theorem owns_pop {w : World} {base e n : Nat} {p : Option Addr} {c : Nat} {xs : List Value} {x : Value} (h : w.ownsRow base e 1 (.slice p (n + 1) c) (n + 1) (xs ++ [x])) (hn : xs.length = n) : w.ownsRow base e 1 (.slice p n c) n xs := by
  rcases h.2 with ⟨h1, h2⟩ | ⟨g, cap, cur, hv, hb, hg, hnc, hcm, hcs, ht⟩
  · omega
  · injection hv with e1 e2 e3
    subst e1 e3
    refine ⟨by omega, .inr ⟨g, c, cur, rfl, hb, hg, by omega, hcm, hcs, ?_⟩⟩
    have := congrArg (List.take n) ht
    rw [List.take_take, List.take_append_of_le_length (by omega), List.take_of_length_le (by omega : xs.length ≤ n)] at this
    rw [← this]
    congr 1
    omega
theorem ownBlock_len {p : Option Addr} {n m c d : Nat} : (Value.slice p n c).ownBlock = (Value.slice p m d).ownBlock := by cases p <;> rfl

/-- The last of the work is taken off. -/
theorem DecM.pop {p : Option Addr} {c : Nat} {x : Int} (h : DecM w0 vars vc k pl (.slice p (work.length + 1) c) (work ++ [x]) wr) : DecM w0 vars vc k pl (.slice p work.length c) work wr := by
  have hw := h.wk
  rw [List.length_append, List.map_append] at hw
  exact ⟨h.below, h.b0, h.bk, h.pl, owns_pop hw (by simp), fun g hg => h.ne g (by rw [← hg]; exact ownBlock_len)⟩

/-- Something is known. -/
theorem DecM.known (h : DecM w0 vars vc k pl vw work wr) (v : Nat) (hv : v < k.length) (x : Int) : DecM w0 vars vc (k.set v x) pl vw work (wr.setCell ⟨w0.heap.size + 1, v, none⟩ (.int .i8 x)) := by
  have hsz := h.size
  have hwlt := h.wk.lt
  have hb : ∀ j, j ≠ w0.heap.size + 1 → (wr.setCell ⟨w0.heap.size + 1, v, none⟩ (.int .i8 x)).heap[j]? = wr.heap[j]? := fun j hj => Below.heap_setCell _ _ _ _ hj
  obtain ⟨p1, p2⟩ := h.pl.keep (w' := wr.setCell ⟨w0.heap.size + 1, v, none⟩ (.int .i8 x)) (by rw [World.size_setCell]; exact Nat.le_refl _) (hb _ (by omega)) (fun g hp => hb g (by have := (h.pl.blk hp).1; omega))
  refine ⟨⟨h.below.os, h.below.tape, h.below.output, by rw [World.size_setCell]; exact h.below.size, fun j hj => (hb j (by omega)).trans (h.below.block j hj)⟩, (hb _ (by omega)).trans h.b0, ?_, p1,
    owns_keep h.wk fun g hg => hb g (by have := (hwlt g hg).1; omega), fun g hg hp => h.ne g hg (p2 g hp)⟩
  rw [heap_set_same h.bk]
  congr 2
  simp [List.map_set]

/-- The last of the work, as a walk reads it. -/
theorem DecM.last {x : Int} (h : DecM w0 vars vc k pl vw (work ++ [x]) wr) : ∃ g c, vw = .slice (some ⟨g, 0, none⟩) (work.length + 1) c ∧ wr.cell? ⟨g, work.length, none⟩ = some (.int .i64 x) ∧ work.length + 1 ≤ c := by
  have hw := h.wk
  rw [List.length_append, List.map_append] at hw
  obtain ⟨hl, h1 | ⟨g, cap, cur, rfl, hb, hg, rest⟩⟩ := hw
  · exact absurd h1.2 (by simp)
  · refine ⟨g, cap, rfl, ?_, by have := rest.1; simp at this; omega⟩
    have := World.ownsRow.cellAt (w := wr) (base := w0.heap.size + 3) (e := 3) (size := 1) (g := g) (cap := cap) (n := work.length + 1) (xs := work.map (Value.int .i64) ++ [x].map (Value.int .i64)) ⟨hl, .inr ⟨g, cap, cur, rfl, hb, hg, rest⟩⟩ work.length (by omega)
    rw [this]
    simp

/-- What is known of a variable, as a walk reads and writes it. -/
theorem DecM.kcell (h : DecM w0 vars vc k pl vw work wr) (v : Nat) (hv : v < k.length) : wr.cell? ⟨w0.heap.size + 1, v, none⟩ = some (.int .i8 k[v]) ∧ wr.frozen? ⟨w0.heap.size + 1, v, none⟩ = false :=
  ⟨by rw [cell_of_cells h.bk]; simp [hv], frozen_of_cells h.bk⟩

def lenV : Value → Nat
  | .slice _ n _ => n
  | _ => 0
def isZ : Value → Bool
  | .int _ z => z == 0
  | _ => false
def zerosW (w : World) (b : Nat) : Nat :=
  match w.heap[b]? with
  | some (.cells cs _ _) => cs.toList.countP isZ
  | _ => 0
theorem DecM.zeros (h : DecM w0 vars vc k pl vw work wr) : zerosW wr (w0.heap.size + 1) = k.count 0 := by
  unfold zerosW
  rw [h.bk]
  show ((k.map (Value.int .i8)).toArray.toList).countP isZ = _
  rw [List.count, List.countP_map]
  congr 1
end

end Go.Proofs.YtjcnhnifageikaaDoor

namespace Go.Proofs.YtjcnhnifageikaaDoor
set_option linter.unusedSimpArgs false
set_option linter.unusedVariables false

theorem getD_set_same {α : Type} (l : List α) (a : Nat) (x d : α) (h : a < l.length) : (l.set a x).getD a d = x := by simp [h]
theorem getD_set_other {α : Type} (l : List α) (a b : Nat) (x d : α) (h : a ≠ b) : (l.set a x).getD b d = l.getD b d := by
  simp only [List.getD_eq_getElem?_getD, List.getElem?_set]
  rw [if_neg h]
theorem getD_lt {α : Type} (l : List α) (a : Nat) (d : α) (h : a < l.length) : l.getD a d = l[a] := by simp [h]

/-- The places: of each literal the clauses with it, for the clauses before i, and the first j literals of clause i. -/
structure PlOk (cls : List (List Int)) (pl : List (List Int)) (i j : Nat) : Prop where
  old : ∀ i' (h : i' < cls.length), i' < i → ∀ x ∈ cls[i'], (i' : Int) ∈ pl.getD (placeM x).toNat []
  cur : ∀ (h : i < cls.length), ∀ x ∈ cls[i].take j, (i : Int) ∈ pl.getD (placeM x).toNat []
  all : ∀ l ∈ pl, l.length ≤ 4 * i + j ∧ ∀ e ∈ l, 0 ≤ e ∧ e < cls.length

theorem PlOk.step {cls pl : List (List Int)} {i j : Nat} (h : PlOk cls pl i j) (hi : i < cls.length) (hj : j < cls[i].length) (ha : (placeM cls[i][j]).toNat < pl.length) :
    PlOk cls (pl.set (placeM cls[i][j]).toNat (pl[(placeM cls[i][j]).toNat] ++ [(i : Int)])) i (j + 1) := by
  have mono : ∀ (b : Nat) (e : Int), e ∈ pl.getD b [] → e ∈ (pl.set (placeM cls[i][j]).toNat (pl[(placeM cls[i][j]).toNat] ++ [(i : Int)])).getD b [] := fun b e he => by
    by_cases hb : (placeM cls[i][j]).toNat = b
    · subst hb
      rw [getD_set_same _ _ _ _ ha]
      rw [getD_lt _ _ _ ha] at he
      simp [he]
    · rw [getD_set_other _ _ _ _ _ hb]; exact he
  refine ⟨fun i' h1 h2 x hx => mono _ _ (h.old i' h1 h2 x hx), fun _ x hx => ?_, fun l hl => ?_⟩
  · rw [List.take_succ_eq_append_getElem hj] at hx
    rcases List.mem_append.1 hx with hx | hx
    · exact mono _ _ (h.cur hi x hx)
    · simp only [List.mem_singleton] at hx
      subst hx
      rw [getD_set_same _ _ _ _ ha]; simp
  · rcases List.mem_or_eq_of_mem_set hl with hl | rfl
    · have := h.all l hl
      exact ⟨by omega, this.2⟩
    · have := h.all _ (List.getElem_mem ha)
      refine ⟨by rw [List.length_append]; simp; omega, fun e he => ?_⟩
      rcases List.mem_append.1 he with he | he
      · exact this.2 e he
      · simp at he; subst he; omega
theorem PlOk.step' {cls pl : List (List Int)} {i j a : Nat} (h : PlOk cls pl i j) (hi : i < cls.length) (hj : j < cls[i].length) (ha : placeM cls[i][j] = (a : Int)) (hal : a < pl.length) :
    PlOk cls (pl.set a (pl[a] ++ [(i : Int)])) i (j + 1) := by
  have e : (placeM cls[i][j]).toNat = a := by omega
  have := h.step hi hj (by omega)
  simpa only [e] using this
theorem PlOk.next {cls pl : List (List Int)} {i : Nat} (hi : i < cls.length) (h : PlOk cls pl i cls[i].length) (hl : cls[i].length ≤ 4) : PlOk cls pl (i + 1) 0 := by
  refine ⟨fun i' h1 h2 x hx => ?_, fun _ x hx => by simp at hx, fun l hl' => ⟨by have := (h.all l hl').1; omega, (h.all l hl').2⟩⟩
  by_cases e : i' = i
  · subst e; exact h.cur h1 x (by rw [List.take_length]; exact hx)
  · exact h.old i' h1 (by omega) x hx
theorem PlOk.start (cls : List (List Int)) (n : Nat) : PlOk cls (List.replicate n []) 0 0 :=
  ⟨fun _ _ h => by omega, fun _ x hx => by simp at hx, fun l hl => by simp at hl; obtain ⟨_, rfl⟩ := hl; simp⟩

/-- The work while the places are laid: nothing is known. -/
structure WkA (σ : Nat → Bool) (F : Form) (i : Nat) (work : List Int) : Prop where
  ok : ∀ x ∈ work, okLit F.vars x = true ∧ litT σ x = true
  clo : ∀ i' (h : i' < F.cls.length), i' < i → CloAt (List.replicate (F.vars + 1) 0) work F.cls[i']
  len : work.length ≤ i

theorem cons_zero (σ : Nat → Bool) (n : Nat) : Cons σ (List.replicate n 0) := fun v => .inl (by
  simp only [List.getD_eq_getElem?_getD, List.getElem?_replicate]; split <;> rfl)
theorem WkA.step {n : Nat} {σ : Nat → Bool} {F : Form} {i : Nat} {work : List Int} (hG : Good n σ F) (h : WkA σ F i work) (hi : i < F.cls.length) :
    (openM (List.replicate (F.vars + 1) 0) F.cls[i] (0, 0)).2 ≠ 0 ∧ WkA σ F (i + 1) (pushM work (openM (List.replicate (F.vars + 1) 0) F.cls[i] (0, 0))) := by
  obtain ⟨h1, h2, h3⟩ := cloAt_push (work := work) (cons_zero σ (F.vars + 1)) (hG.sat _ (List.getElem_mem hi))
  refine ⟨h1, ?_⟩
  generalize openM (List.replicate (F.vars + 1) 0) F.cls[i] (0, 0) = r at *
  have hsub : ∀ x ∈ work, x ∈ pushM work r := fun x hx => by unfold pushM; split <;> simp [hx]
  refine ⟨fun x hx => ?_, fun i' hi' hlt => ?_, ?_⟩
  · unfold pushM at hx
    split at hx
    · rename_i e
      rcases List.mem_append.1 hx with hx | hx
      · exact h.ok x hx
      · simp at hx; subst hx
        exact ⟨hG.ok _ (List.getElem_mem hi) _ (h3 e).1, (h3 e).2⟩
    · exact h.ok x hx
  · by_cases e : i' = i
    · subst e; exact h2
    · exact (h.clo i' hi' (by omega)).mono hsub
  · have := h.len
    unfold pushM; split <;> simp <;> omega

/-- The work. -/
structure WkI (n : Nat) (σ : Nat → Bool) (F : Form) (sm : List Int) (k work : List Int) : Prop where
  klen : k.length = F.vars + 1
  k0 : k.getD 0 0 = 0
  cons : Cons σ k
  ok : ∀ x ∈ work, okLit F.vars x = true ∧ litT σ x = true
  clo : ∀ i (h : i < F.cls.length), CloAt k work F.cls[i]
  asm : ∀ x ∈ sm, (isM k x).1 = true ∨ x ∈ work
  bnd : work.length + k.count 0 * 4194304 ≤ 4398052802560
/-- .. while the clauses of a list from number j on are to be looked at. -/
structure WkJ (n : Nat) (σ : Nat → Bool) (F : Form) (sm : List Int) (l : List Int) (j : Nat) (k work : List Int) : Prop where
  klen : k.length = F.vars + 1
  k0 : k.getD 0 0 = 0
  cons : Cons σ k
  ok : ∀ x ∈ work, okLit F.vars x = true ∧ litT σ x = true
  clo : ∀ i (h : i < F.cls.length), (i : Int) ∉ l.drop j → CloAt k work F.cls[i]
  asm : ∀ x ∈ sm, (isM k x).1 = true ∨ x ∈ work
  bnd : work.length + k.count 0 * 4194304 + (l.length - j) ≤ 4398052802560

section
variable {n : Nat} {σ : Nat → Bool} {F : Form} {sm k work : List Int}

theorem WkA.done (hG : Good n σ F) (hc : F.cls.length ≤ 1048576) (hv : F.vars ≤ 1048576) (h : WkA σ F F.cls.length work) (ha : ∀ x ∈ sm, okLit F.vars x = true ∧ litT σ x = true) (hal : sm.length ≤ 1048576) :
    WkI n σ F sm (List.replicate (F.vars + 1) 0) (work ++ sm) := by
  refine ⟨by simp, by simp, cons_zero σ _, fun x hx => ?_, fun i hi => (h.clo i hi hi).mono (fun x hx => by simp [hx]), fun x hx => .inr (by simp [hx]), ?_⟩
  · rcases List.mem_append.1 hx with hx | hx
    · exact h.ok x hx
    · exact ha x hx
  · have := h.len
    rw [List.length_append, List.count_replicate_self]
    omega

theorem WkI.seen {x : Int} (h : WkI n σ F sm k (work ++ [x])) (hk : (isM k x).1 = true) : (isM k x).2 = true ∧ WkI n σ F sm k work := by
  refine ⟨by rw [isM_val h.cons hk]; exact (h.ok x (by simp)).2, h.klen, h.k0, h.cons, fun y hy => h.ok y (by simp [hy]), fun i hi l hl hx => ?_, fun y hy => ?_, ?_⟩
  · rcases h.clo i hi l hl hx with h1 | h1
    · exact .inl h1
    · rcases List.mem_append.1 h1 with h1 | h1
      · exact .inr h1
      · simp at h1; subst h1; exact .inl hk
  · rcases h.asm y hy with h1 | h1
    · exact .inl h1
    · rcases List.mem_append.1 h1 with h1 | h1
      · exact .inr h1
      · simp at h1; subst h1; exact .inl hk
  · have := h.bnd; rw [List.length_append] at this; simp at this; omega

theorem count_set_zero {k : List Int} {v : Nat} {x : Int} (hv : v < k.length) (h0 : k[v] = 0) (hx : x ≠ 0) : (k.set v x).count 0 + 1 = k.count 0 := by
  have h1 : 0 < k.count 0 := List.count_pos_iff.2 (by rw [← h0]; exact List.getElem_mem hv)
  rw [List.count_set hv]
  simp [h0, hx]
  omega

theorem WkI.take {x : Int} {l : List Int} (h : WkI n σ F sm k (work ++ [x])) (hk : (isM k x).1 = false) (hl : ∀ i (hi : i < F.cls.length), -x ∈ F.cls[i] → (i : Int) ∈ l) (hll : l.length ≤ 4194304) :
    x.natAbs < k.length ∧ x ≠ 0 ∧ WkJ n σ F sm l 0 (k.set x.natAbs (signM x)) work := by
  obtain ⟨ho, ht⟩ := h.ok x (by simp)
  obtain ⟨hx0, hxv⟩ := okLit_spec.1 ho
  have hxl : x.natAbs < k.length := by rw [h.klen]; omega
  have hz : k[x.natAbs] = 0 := by
    by_cases e : k[x.natAbs] = 0
    · exact e
    · have := (isM_known (k := k) hx0).2 (by rw [getD_lt _ _ _ hxl]; exact e)
      rw [hk] at this; cases this
  have hs0 : signM x ≠ 0 := by unfold signM; split <;> decide
  have hcnt := count_set_zero hxl hz hs0
  refine ⟨hxl, hx0, by rw [List.length_set]; exact h.klen, ?_, h.cons.set ht, fun y hy => h.ok y (by simp [hy]), fun i hi hn => ?_, fun y hy => ?_, ?_⟩
  · rw [getD_set_other _ _ _ _ _ (by omega)]; exact h.k0
  · rw [List.drop_zero] at hn
    exact (h.clo i hi).set hx0 hxl (fun hm => hn (hl i hi hm))
  · by_cases hyx : y.natAbs = x.natAbs
    · rcases (by omega : y = x ∨ y = -x) with e | e
      · subst e; left; rw [isM_set_same hx0 hxl]
      · rcases h.asm y hy with h1 | h1
        · rw [(isM_known (by omega)), hyx, getD_lt _ _ _ hxl] at h1; exact absurd hz h1
        · have := (h.ok y h1).2
          rw [e, litT_neg _ hx0, ht] at this; cases this
    · rcases h.asm y hy with h1 | h1
      · left; rw [isM_set_ne _ hyx]; exact h1
      · rcases List.mem_append.1 h1 with h1 | h1
        · exact .inr h1
        · simp at h1; subst h1; exact absurd rfl hyx
  · have := h.bnd; rw [List.length_append] at this; simp at this; omega

theorem WkJ.step {l : List Int} {j : Nat} (hG : Good n σ F) (h : WkJ n σ F sm l j k work) (hj : j < l.length) (i : Nat) (hi : i < F.cls.length) (hij : l[j] = (i : Int)) :
    (openM k F.cls[i] (0, 0)).2 ≠ 0 ∧ WkJ n σ F sm l (j + 1) k (pushM work (openM k F.cls[i] (0, 0))) := by
  obtain ⟨h1, h2, h3⟩ := cloAt_push (work := work) h.cons (hG.sat _ (List.getElem_mem hi))
  refine ⟨h1, ?_⟩
  generalize openM k F.cls[i] (0, 0) = r at *
  have hsub : ∀ x ∈ work, x ∈ pushM work r := fun x hx => by unfold pushM; split <;> simp [hx]
  refine ⟨h.klen, h.k0, h.cons, fun x hx => ?_, fun i' hi' hn => ?_, fun x hx => (h.asm x hx).imp id (hsub x), ?_⟩
  · unfold pushM at hx
    split at hx
    · rename_i e
      rcases List.mem_append.1 hx with hx | hx
      · exact h.ok x hx
      · simp at hx; subst hx
        exact ⟨hG.ok _ (List.getElem_mem hi) _ (h3 e).1, (h3 e).2⟩
    · exact h.ok x hx
  · by_cases e : i' = i
    · subst e; exact h2
    · refine (h.clo i' hi' ?_).mono hsub
      rw [List.drop_eq_getElem_cons hj, hij]
      simp only [List.mem_cons, not_or]
      exact ⟨by omega, hn⟩
  · have := h.bnd
    unfold pushM; split <;> simp <;> omega
theorem WkJ.done {l : List Int} (h : WkJ n σ F sm l l.length k work) : WkI n σ F sm k work :=
  ⟨h.klen, h.k0, h.cons, h.ok, fun i hi => h.clo i hi (by simp), h.asm, by have := h.bnd; omega⟩

theorem WkI.done (hG : Good n σ F) (h : WkI n σ F sm k []) (hI : ∀ v, 2 ≤ v → v ≤ n + 1 → ∃ x ∈ sm, x.natAbs = v) : ∀ v, 1 ≤ v → v ≤ F.vars → k.getD v 0 = (if σ v then 1 else -1) := by
  refine all_known hG h.klen h.cons (fun c hc => ?_) (fun v h1 h2 => ?_)
  · obtain ⟨i, hi, rfl⟩ := List.mem_iff_getElem.1 hc
    exact h.clo i hi
  · obtain ⟨x, hx, hxv⟩ := hI v h1 h2
    rcases h.asm x hx with h3 | h3
    · rw [← hxv]; exact (isM_known (by omega)).1 h3
    · cases h3
end

end Go.Proofs.YtjcnhnifageikaaDoor
