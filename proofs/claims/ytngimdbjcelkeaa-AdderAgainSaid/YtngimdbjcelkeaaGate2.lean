/-
  The walks of package gate: New, Fresh, clauses.
-/
import Derived.Test.YtngimdbjcelkeaaGate1
import Derived.Test.YtngimdbjcelkeaaApp
namespace Go.Proofs.Ytngimdbjcelkeaa
set_option linter.unusedSimpArgs false
set_option linter.unusedVariables false
open Go.RowKit

/-- Blocks that are new between two worlds. -/
def New (w w' : World) (k : Nat) : Prop := w.heap.size ≤ k ∧ k < w'.heap.size

/-- A step that changes the number of variables. -/
theorem IsB.setVars {w : World} {bb : Nat} {F : Form} (h : IsB w bb F) (n : Nat) (h1 : 1 ≤ n) (h2 : n ≤ 1048576) :
    IsB (w.setCell ⟨bb, 0, none⟩ (.int .i64 (n : Int))) bb ⟨n, F.cls⟩ ∧ FrB bb w (w.setCell ⟨bb, 0, none⟩ (.int .i64 (n : Int))) := by
  have hlt := h.lt
  obtain ⟨v, vs, hh, ho, hne, hl, hc, hr⟩ := h.ex
  have hnew : (w.setCell ⟨bb, 0, none⟩ (.int .i64 (n : Int))).heap[bb]? = some (.cells #[.int .i64 (n : Int), v] 143 (0, 0)) := by
    simp [World.setCell, Array.getElem?_modify, hh]
  have ho' : (w.setCell ⟨bb, 0, none⟩ (.int .i64 (n : Int))).ownsRow 0 23 1 v vs.length vs :=
    ho.kept (row := some bb) ⟨rfl, rfl, rfl, by simp, fun k hk hne' => Below.heap_setCell _ _ _ _ (fun e => hne' (by rw [e]))⟩ (.inr hne)
  have hRd : ∀ k, Rd bb w k → Rd bb (w.setCell ⟨bb, 0, none⟩ (.int .i64 (n : Int))) k ∧ (w.setCell ⟨bb, 0, none⟩ (.int .i64 (n : Int))).heap[k]? = w.heap[k]? := fun k hk =>
    ⟨⟨by simpa using hk.1, hk.2.1, by have := hk.2.2; rw [bblk_of hh] at this; rw [bblk_of hnew]; exact this⟩, Below.heap_setCell _ _ _ _ hk.2.1⟩
  have hfr : FrB bb w (w.setCell ⟨bb, 0, none⟩ (.int .i64 (n : Int))) :=
    ⟨rfl, rfl, rfl, by simp, fun k hk => ⟨⟨(hRd k hk.1).1, fun e => hk.2 ((bcl_of hh ho).2 ((bcl_of hnew ho').1 e))⟩, (hRd k hk.1).2⟩⟩
  exact ⟨⟨⟨v, vs, hnew, ho', hne, hl, fun i hi hi' => (hc i hi hi').keep hRd, fun u hu k hk => (hRd k (hr u hu k hk)).1⟩, h1, h2, h.cls⟩, hfr⟩

set_option maxHeartbeats 400000 in
theorem fresh_any (bb : Nat) (F : Form) (w : World) (hB : IsB w bb F) :
    Calls Try.prog 106 #[.pointer (some ⟨bb, 0, none⟩)] w fun e w' =>
      e = .returned (.tuple #[.int .i64 (freshM F).1, .int .i64 (freshM F).2.1]) ∧ IsB w' bb (freshM F).2.2 ∧ FrB bb w w' := by
  obtain ⟨p, c, h0, h1, f0, f1⟩ := hB.cells
  have hpos := hB.pos
  have hle := hB.vars
  by_cases hv : F.vars = 1048576
  · have e : freshM F = (0, 5, F) := by simp [freshM, hv]
    rw [e]
    have hd : ((F.vars : Int) == 1048576) = true := by simp; omega
    have HV := hid hv; clear hv
    go_enter Try.func106, Try.ntmps106
    go_wp2
    go_ret2
    exact ⟨rfl, hB, Fr.refl _ _⟩
  · have e : freshM F = ((F.vars : Int) + 1, 0, ⟨F.vars + 1, F.cls⟩) := by simp [freshM, hv]
    rw [e]
    have hd : ((F.vars : Int) == 1048576) = false := by simp; omega
    have hs := hB.setVars (F.vars + 1) (by omega) (by omega)
    rw [show (((F.vars + 1 : Nat)) : Int) = (F.vars : Int) + 1 from by omega] at hs
    have HS := hid hs; clear hs
    have h0' := World.cell?_setCell_same (a := ⟨bb, 0, none⟩) (v := .int .i64 ((F.vars : Int) + 1)) w h0
    go_enter Try.func106, Try.ntmps106
    go_wp2
    go_ret2
    exact ⟨rfl, HS.out⟩

/-- The new builder's memory. -/
theorem IsB.made (w : World) : IsB (((w.alloc (.cells #[.int .i64 1] 3)).alloc (.cells #[.slice (some ⟨w.heap.size, 0, none⟩) 1 1] 23)).alloc
    (.cells #[.int .i64 1, .slice (some ⟨w.heap.size + 1, 0, none⟩) 1 1] 143)) (w.heap.size + 2) ⟨1, [[1]]⟩ := by
  have e2 : (((w.alloc (.cells #[.int .i64 1] 3)).alloc (.cells #[.slice (some ⟨w.heap.size, 0, none⟩) 1 1] 23)).alloc
    (.cells #[.int .i64 1, .slice (some ⟨w.heap.size + 1, 0, none⟩) 1 1] 143)).heap[w.heap.size + 2]? = some (.cells #[.int .i64 1, .slice (some ⟨w.heap.size + 1, 0, none⟩) 1 1] 143 (0, 0)) := by
    simp only [heap_al, World.size_alloc]; simp
  have hR : Rd (w.heap.size + 2) (((w.alloc (.cells #[.int .i64 1] 3)).alloc (.cells #[.slice (some ⟨w.heap.size, 0, none⟩) 1 1] 23)).alloc
    (.cells #[.int .i64 1, .slice (some ⟨w.heap.size + 1, 0, none⟩) 1 1] 143)) w.heap.size := ⟨by simp; omega, by omega, by rw [bblk_of e2]; simp [Value.ownBlock]⟩
  refine ⟨⟨_, [.slice (some ⟨w.heap.size, 0, none⟩) 1 1], e2, ?_, by simp [Value.ownBlock], rfl, ?_, ?_⟩, by decide, by decide, by decide⟩
  · refine ⟨rfl, .inr ⟨w.heap.size + 1, 1, #[.slice (some ⟨w.heap.size, 0, none⟩) 1 1], rfl, Nat.zero_le _, ?_, Nat.le_refl _, by unfold maxLen; omega, rfl, rfl⟩⟩
    simp only [heap_al, World.size_alloc]; simp
  · intro i hi hi'
    obtain rfl : i = 0 := by simp at hi; omega
    refine ⟨_, 1, rfl, by simp, by unfold maxLen; omega, by simp, .inr ⟨_, 0, rfl, hR, ?_⟩⟩
    intro j hj
    obtain rfl : j = 0 := by simp at hj; omega
    simp [cell_al]
  · intro u hu k hk
    simp at hu; subst hu
    simp [Value.ownBlock] at hk; subst hk
    exact hR

theorem new_any (w : World) : Calls Try.prog 74 #[] w fun e w' =>
      ∃ bb, e = .returned (.pointer (some ⟨bb, 0, none⟩)) ∧ w.heap.size ≤ bb ∧ IsB w' bb ⟨1, [[1]]⟩ ∧ Fr (· < w.heap.size) (Away bb w') w w' := by
  have hm := IsB.made w
  have hb : Below w.heap.size w (((w.alloc (.cells #[.int .i64 1] 3)).alloc (.cells #[.slice (some ⟨w.heap.size, 0, none⟩) 1 1] 23)).alloc
    (.cells #[.int .i64 1, .slice (some ⟨w.heap.size + 1, 0, none⟩) 1 1] 143)) := (((Below.refl _ _).alloc (Nat.le_refl _) _).alloc (by simp) _).alloc (by simp; omega) _
  have e2 : bblk (((w.alloc (.cells #[.int .i64 1] 3)).alloc (.cells #[.slice (some ⟨w.heap.size, 0, none⟩) 1 1] 23)).alloc
    (.cells #[.int .i64 1, .slice (some ⟨w.heap.size + 1, 0, none⟩) 1 1] 143)) (w.heap.size + 2) = some (w.heap.size + 1) := by
    simp only [bblk, heap_al, World.size_alloc]; simp [Value.ownBlock]
  have hnb : ∀ k, k < w.heap.size → ¬ bcl (((w.alloc (.cells #[.int .i64 1] 3)).alloc (.cells #[.slice (some ⟨w.heap.size, 0, none⟩) 1 1] 23)).alloc
    (.cells #[.int .i64 1, .slice (some ⟨w.heap.size + 1, 0, none⟩) 1 1] 143)) (w.heap.size + 2) k := by
    rintro k hk ⟨a', g, n, c, t', fz', h', i, hi, s, hs, hk'⟩
    simp only [heap_al, World.size_alloc] at h'
    simp at h'
    obtain ⟨⟨rfl, rfl, rfl, rfl⟩, _⟩ := h'
    obtain rfl : i = 0 := by omega
    simp [cell_al] at hs
    subst hs
    simp [Value.ownBlock] at hk'
    omega
  have hfr : Fr (· < w.heap.size) (Away (w.heap.size + 2) (((w.alloc (.cells #[.int .i64 1] 3)).alloc (.cells #[.slice (some ⟨w.heap.size, 0, none⟩) 1 1] 23)).alloc
    (.cells #[.int .i64 1, .slice (some ⟨w.heap.size + 1, 0, none⟩) 1 1] 143))) w _ := Fr.of_below hb fun k hk => ⟨hk, ⟨by simp; omega, by omega, by rw [e2]; simp; omega⟩, hnb k hk⟩
  have HM := hid hm; clear hm
  have HF := hid hfr; clear hfr hb e2
  go_enter Try.func74, Try.ntmps74
  go_wp2
  go_ret
  exact ⟨_, rfl, by omega, HM.out, HF.out⟩

end Go.Proofs.Ytngimdbjcelkeaa
