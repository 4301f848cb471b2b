/-
  Memory of the reference's Decide: a row of rows that grow, each in a block of its own.
-/
import Derived.Test.YtngimdbjcelkeaaLaw2
namespace Go.Proofs.Ytngimdbjcelkeaa
set_option linter.unusedSimpArgs false
set_option linter.unusedVariables false
open Go.RowKit

/-- Block g is that of a row of the rows at block Bp. -/
def PlBlk (w : World) (Bp g : Nat) : Prop := ∃ cur t fz, w.heap[Bp]? = some (.cells cur t fz) ∧ ∃ (a : Nat) (v : Value), cur[a]? = some v ∧ v.ownBlock = some g

/-- At block Bp lie rows that read as pl, each owned, no two in one block. -/
structure PlI (base Bp : Nat) (pl : List (List Int)) (w : World) : Prop where
  lt : Bp < base
  bs : base ≤ w.heap.size
  ex : ∃ cur : Array Value, w.heap[Bp]? = some (.cells cur 23 (0, 0)) ∧ cur.size = pl.length ∧
    (∀ a (h : a < pl.length) (h' : a < cur.size), w.ownsRow base 3 1 cur[a] pl[a].length (pl[a].map (Value.int .i64))) ∧
    ∀ a b (ha : a < cur.size) (hb : b < cur.size), a ≠ b → ∀ g, cur[a].ownBlock = some g → cur[b].ownBlock ≠ some g

theorem PlI.blk {base Bp g : Nat} {pl : List (List Int)} {w : World} (h : PlI base Bp pl w) (hg : PlBlk w Bp g) : base ≤ g ∧ g < w.heap.size := by
  obtain ⟨cur, hc, hs, ho, _⟩ := h.ex
  obtain ⟨cur', t, fz, hc', a, v, ha, hv⟩ := hg
  rw [hc] at hc'
  simp only [Option.some.injEq, Obj.cells.injEq] at hc'
  obtain ⟨rfl, -, -⟩ := hc'
  obtain ⟨hlt, rfl⟩ := Array.getElem?_eq_some_iff.1 ha
  exact (ho a (by omega) hlt).lt g hv

theorem PlI.at {base Bp : Nat} {pl : List (List Int)} {w : World} (h : PlI base Bp pl w) (a : Nat) (ha : a < pl.length) :
    ∃ v, w.cell? ⟨Bp, a, none⟩ = some v ∧ w.frozen? ⟨Bp, a, none⟩ = false ∧ w.ownsRow base 3 1 v pl[a].length (pl[a].map (Value.int .i64)) ∧ ∀ g, v.ownBlock = some g → PlBlk w Bp g := by
  obtain ⟨cur, hc, hs, ho, _⟩ := h.ex
  have h1 : a < cur.size := by omega
  exact ⟨cur[a], by rw [cell_of_cells hc, Array.getElem?_eq_getElem h1], frozen_of_cells hc, ho a ha h1, fun g hg => ⟨cur, _, _, hc, a, cur[a], Array.getElem?_eq_getElem h1, hg⟩⟩

theorem PlI.keep {base Bp : Nat} {pl : List (List Int)} {w w' : World} (h : PlI base Bp pl w) (hs : w.heap.size ≤ w'.heap.size) (hb : w'.heap[Bp]? = w.heap[Bp]?) (hk : ∀ g, PlBlk w Bp g → w'.heap[g]? = w.heap[g]?) :
    PlI base Bp pl w' ∧ ∀ g, PlBlk w' Bp g → PlBlk w Bp g := by
  obtain ⟨cur, hc, hsz, ho, hd⟩ := h.ex
  refine ⟨⟨h.lt, Nat.le_trans h.bs hs, cur, hb.trans hc, hsz, fun a h1 h2 => owns_keep (ho a h1 h2) fun j hj => hk j ⟨cur, _, _, hc, a, _, Array.getElem?_eq_getElem h2, hj⟩, hd⟩, ?_⟩
  rintro g ⟨cur', t, fz, hc', r⟩
  exact ⟨cur', t, fz, hb.symm.trans hc', r⟩

theorem PlI.store {base Bp : Nat} {pl : List (List Int)} {w w' : World} (h : PlI base Bp pl w) (a : Nat) (ha : a < pl.length) (x : Int) {v v' : Value} (hv : w.cell? ⟨Bp, a, none⟩ = some v) (hg : w.grownBy w' v.ownBlock)
    (hown : w'.ownsRow base 3 1 v' (pl[a].length + 1) (pl[a].map (Value.int .i64) ++ [.int .i64 x])) (hat : v'.ownBlock = v.ownBlock ∨ ∃ g, w.heap.size ≤ g ∧ v'.ownBlock = some g) :
    PlI base Bp (pl.set a (pl[a] ++ [x])) (w'.setCell ⟨Bp, a, none⟩ v') ∧ ∀ g, PlBlk (w'.setCell ⟨Bp, a, none⟩ v') Bp g → PlBlk w Bp g ∨ w.heap.size ≤ g := by
  have hblk := fun g => @PlI.blk base Bp g pl w h
  have hlt := h.lt
  have hbs := h.bs
  have hat0 := h.at a ha
  obtain ⟨cur, hc, hsz, ho, hd⟩ := h.ex
  have h1 : a < cur.size := by omega
  have hva : v = cur[a] := by rw [cell_of_cells hc, Array.getElem?_eq_getElem h1] at hv; injection hv with hv; exact hv.symm
  subst hva
  have hb' : ∀ j, j < w.heap.size → some j ≠ cur[a].ownBlock → j ≠ Bp → (w'.setCell ⟨Bp, a, none⟩ v').heap[j]? = w.heap[j]? := fun j h1 h2 h3 => (Below.heap_setCell _ _ _ _ h3).trans (hg.block j h1 h2)
  have hownlt := (ho a ha h1).lt
  have hBp : some Bp ≠ cur[a].ownBlock := fun e => by have := (hownlt Bp e.symm).1; omega
  have hc' : (w'.setCell ⟨Bp, a, none⟩ v').heap[Bp]? = some (.cells (cur.setIfInBounds a v') 23 (0, 0)) := heap_set_same ((hg.block Bp (by omega) hBp).trans hc) v'
  have hvlt := hown.lt
  have hsw := hg.size
  refine ⟨⟨h.lt, by rw [World.size_setCell]; omega, cur.setIfInBounds a v', hc', by simp [hsz], fun j hj hj' => ?_, fun j k hj hk hne g hjg hkg => ?_⟩, ?_⟩
  · by_cases hja : j = a
    · subst hja
      have e1 : (cur.setIfInBounds j v')[j] = v' := by simp
      have e2 : (pl.set j (pl[j] ++ [x]))[j] = pl[j] ++ [x] := by simp
      rw [e1, e2, List.length_append, List.map_append]
      exact owns_keep hown fun g hg' => Below.heap_setCell _ _ _ _ (by have := (hvlt g hg').1; show g ≠ Bp; omega)
    · have hj1 : j < pl.length := by simpa using hj
      have hj2 : j < cur.size := by omega
      have e1 : (cur.setIfInBounds a v')[j] = cur[j] := Array.getElem_setIfInBounds_ne _ (by omega)
      have e2 : (pl.set a (pl[a] ++ [x]))[j] = pl[j] := by rw [List.getElem_set_ne (by omega)]
      rw [e1, e2]
      exact owns_keep (ho j hj1 hj2) fun g hg' => by
        have := (ho j hj1 hj2).lt g hg'
        exact hb' g this.2 (fun e => hd j a hj2 h1 hja g hg' e.symm) (by omega)
  · have hj2 : j < cur.size := by simpa using hj
    have hk2 : k < cur.size := by simpa using hk
    by_cases hja : j = a
    · subst hja
      have e1 : (cur.setIfInBounds j v')[j] = v' := by simp
      have e2 : (cur.setIfInBounds j v')[k] = cur[k] := Array.getElem_setIfInBounds_ne _ hne
      rw [e1] at hjg
      rw [e2] at hkg
      rcases hat with e | ⟨g', hg', e⟩
      · rw [e] at hjg; exact hd j k h1 hk2 hne g hjg hkg
      · rw [e] at hjg; injection hjg with hjg
        have := ((ho k (by omega) hk2).lt g hkg).2
        omega
    · have e1 : (cur.setIfInBounds a v')[j] = cur[j] := Array.getElem_setIfInBounds_ne _ (by omega)
      rw [e1] at hjg
      by_cases hka : k = a
      · subst hka
        have e2 : (cur.setIfInBounds k v')[k] = v' := by simp
        rw [e2] at hkg
        rcases hat with e | ⟨g', hg', e⟩
        · rw [e] at hkg; exact hd j k hj2 h1 hne g hjg hkg
        · rw [e] at hkg; injection hkg with hkg
          have := ((ho j (by omega) hj2).lt g hjg).2
          omega
      · have e2 : (cur.setIfInBounds a v')[k] = cur[k] := Array.getElem_setIfInBounds_ne _ (by omega)
        rw [e2] at hkg
        exact hd j k hj2 hk2 hne g hjg hkg
  · rintro g ⟨cur', t, fz, hc2, j, u, hj, hu⟩
    rw [hc'] at hc2
    simp only [Option.some.injEq, Obj.cells.injEq] at hc2
    obtain ⟨rfl, -, -⟩ := hc2
    obtain ⟨hj', rfl⟩ := Array.getElem?_eq_some_iff.1 hj
    have hj2 : j < cur.size := by simpa using hj'
    by_cases hja : j = a
    · subst hja
      have e1 : (cur.setIfInBounds j v')[j] = v' := by simp
      rw [e1] at hu
      rcases hat with e | ⟨g', hg', e⟩
      · rw [e] at hu; exact .inl ⟨cur, _, _, hc, j, _, Array.getElem?_eq_getElem hj2, hu⟩
      · rw [e] at hu; injection hu with hu; exact .inr (by omega)
    · have e1 : (cur.setIfInBounds a v')[j] = cur[j] := Array.getElem_setIfInBounds_ne _ (by omega)
      rw [e1] at hu
      exact .inl ⟨cur, _, _, hc, j, _, Array.getElem?_eq_getElem hj2, hu⟩

/-- The rows at first: all empty. -/
theorem PlI.start {base Bp n : Nat} {w : World} (h : Bp < base) (hb : base ≤ w.heap.size) (hc : w.heap[Bp]? = some (.cells (Array.replicate n (.slice none 0 0)) 23 (0, 0))) : PlI base Bp (List.replicate n []) w ∧ ∀ g, ¬ PlBlk w Bp g := by
  refine ⟨⟨h, hb, _, hc, by simp, fun a h1 h2 => ?_, fun a b ha hb' hne g hg => ?_⟩, ?_⟩
  · simp only [Array.getElem_replicate, List.getElem_replicate]
    exact World.ownsRow_nil _ _ _ _
  · simp [Value.ownBlock] at hg
  · rintro g ⟨cur, t, fz, hc', a, v, ha, hv⟩
    rw [hc] at hc'
    simp only [Option.some.injEq, Obj.cells.injEq] at hc'
    obtain ⟨rfl, -, -⟩ := hc'
    obtain ⟨hlt, rfl⟩ := Array.getElem?_eq_some_iff.1 ha
    simp [Value.ownBlock] at hv

end Go.Proofs.Ytngimdbjcelkeaa
