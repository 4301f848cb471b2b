/-
  The walk of package gate's table of clauses.
-/
import Derived.Test.YtjcnhnifageikaaDoorGate2
namespace Go.Proofs.YtjcnhnifageikaaDoor
set_option linter.unusedSimpArgs false
set_option linter.unusedVariables false
open Go.RowKit

def ci (k : Nat) (w : World) (xs : List Int) : Obj := .cells (xs.map (Value.int .i64)).toArray 3
def sl3 (b n : Nat) : Value := .slice (some ⟨b, 0, none⟩) n n

/-- Lists that lie in blocks that are written out. -/
theorem Ints.blk {R : Nat → Prop} {w : World} {b : Nat} {xs : List Int} {t : TypeId} (h : w.heap[b]? = some (.cells (xs.map (Value.int .i64)).toArray t (0, 0))) (hR : R b) (hl : xs.length ≤ 140737488355328) :
    Ints R w (.slice (some ⟨b, 0, none⟩) xs.length xs.length) xs :=
  ⟨_, xs.length, by rw [List.length_map], by simp, by unfold maxLen; omega, by simpa using hl, .inr ⟨b, 0, rfl, hR, fun j hj => by
    rw [Nat.zero_add]; simp only [World.cell?, h]; simp [hj]⟩⟩
theorem Sl.blk {R : Nat → Prop} {w : World} {b : Nat} {xs : List Value} {t : TypeId} (h : w.heap[b]? = some (.cells xs.toArray t (0, 0))) (hR : R b) (hl : xs.length ≤ 140737488355328) :
    Sl R w (.slice (some ⟨b, 0, none⟩) xs.length xs.length) xs :=
  ⟨_, xs.length, rfl, Nat.le_refl _, by unfold maxLen; omega, hl, .inr ⟨b, 0, rfl, hR, fun j hj => by
    rw [Nat.zero_add]; simp only [World.cell?, h]; simp [hj]⟩⟩

theorem LL.cons {R : Nat → Prop} {w : World} {v : Value} {ls : List (List Int)} (vs : List Value) (h : Sl R w v vs) (hl : vs.length = ls.length)
    (hh : ∀ x ∈ vs.zip ls, Ints R w x.1 x.2) : LL R w v ls :=
  ⟨vs, h, hl, fun i hi hi' => hh (vs[i], ls[i]) (by
    rw [List.mem_iff_getElem]
    exact ⟨i, by simp; omega, by simp⟩)⟩

set_option maxRecDepth 100000 in
set_option maxHeartbeats 1600000 in
theorem clauses_any (w : World) : Calls Tryd.prog 71 #[] w fun e w' => ∃ v0 v1 v2,
      e = .returned (.agg #[v0, v1, v2]) ∧ LL (New w w') w' v0 (gateTbl 0) ∧ LL (New w w') w' v1 (gateTbl 1) ∧ LL (New w w') w' v2 (gateTbl 2) ∧ Below w.heap.size w w' := by
  go_enter Tryd.func71, Tryd.ntmps71
  go_wp2
  refine bodyPost_ret (v := .agg #[.slice (some ⟨w.heap.size + 4, 0, none⟩) 3 3, .slice (some ⟨w.heap.size + 9, 0, none⟩) 4 4, .slice (some ⟨w.heap.size + 16, 0, none⟩) 6 6])
    (by simp [results, Tryd.results71, go_sem]) rfl ?_
  generalize hW : World.alloc _ _ = W
  have hsz : W.heap.size = w.heap.size + 17 := by rw [← hW]; simp
  have hb : Below w.heap.size w W := by
    rw [← hW]
    exact ((((((((((((((((((Below.refl _ _).alloc (Nat.le_refl _) _).alloc (by simp only [World.size_alloc]; omega) _).alloc (by simp only [World.size_alloc]; omega) _).alloc (by simp only [World.size_alloc]; omega) _).alloc (by simp only [World.size_alloc]; omega) _).alloc (by simp only [World.size_alloc]; omega) _).alloc (by simp only [World.size_alloc]; omega) _).alloc (by simp only [World.size_alloc]; omega) _).alloc (by simp only [World.size_alloc]; omega) _).alloc (by simp only [World.size_alloc]; omega) _).alloc (by simp only [World.size_alloc]; omega) _).alloc (by simp only [World.size_alloc]; omega) _).alloc (by simp only [World.size_alloc]; omega) _).alloc (by simp only [World.size_alloc]; omega) _).alloc (by simp only [World.size_alloc]; omega) _).alloc (by simp only [World.size_alloc]; omega) _).alloc (by simp only [World.size_alloc]; omega) _)
  have hN : ∀ i, i < 17 → New w W (w.heap.size + i) := fun i hi => ⟨by omega, by omega⟩
  have f1 : W.heap[w.heap.size + 1]? = some (.cells #[.int .i64 (-1), .int .i64 (2)] 3 (0, 0)) := by rw [← hW]; simp only [heap_al, World.size_alloc]; simp
  have f2 : W.heap[w.heap.size + 2]? = some (.cells #[.int .i64 (-1), .int .i64 (3)] 3 (0, 0)) := by rw [← hW]; simp only [heap_al, World.size_alloc]; simp
  have f3 : W.heap[w.heap.size + 3]? = some (.cells #[.int .i64 (1), .int .i64 (-2), .int .i64 (-3)] 3 (0, 0)) := by rw [← hW]; simp only [heap_al, World.size_alloc]; simp
  have f4 : W.heap[w.heap.size + 4]? = some (.cells #[.slice (some ⟨w.heap.size + 1, 0, none⟩) 2 2, .slice (some ⟨w.heap.size + 2, 0, none⟩) 2 2, .slice (some ⟨w.heap.size + 3, 0, none⟩) 3 3] 23 (0, 0)) := by rw [← hW]; simp only [heap_al, World.size_alloc]; simp
  have f5 : W.heap[w.heap.size + 5]? = some (.cells #[.int .i64 (-1), .int .i64 (2), .int .i64 (3)] 3 (0, 0)) := by rw [← hW]; simp only [heap_al, World.size_alloc]; simp
  have f6 : W.heap[w.heap.size + 6]? = some (.cells #[.int .i64 (-1), .int .i64 (-2), .int .i64 (-3)] 3 (0, 0)) := by rw [← hW]; simp only [heap_al, World.size_alloc]; simp
  have f7 : W.heap[w.heap.size + 7]? = some (.cells #[.int .i64 (1), .int .i64 (-2), .int .i64 (3)] 3 (0, 0)) := by rw [← hW]; simp only [heap_al, World.size_alloc]; simp
  have f8 : W.heap[w.heap.size + 8]? = some (.cells #[.int .i64 (1), .int .i64 (2), .int .i64 (-3)] 3 (0, 0)) := by rw [← hW]; simp only [heap_al, World.size_alloc]; simp
  have f9 : W.heap[w.heap.size + 9]? = some (.cells #[.slice (some ⟨w.heap.size + 5, 0, none⟩) 3 3, .slice (some ⟨w.heap.size + 6, 0, none⟩) 3 3, .slice (some ⟨w.heap.size + 7, 0, none⟩) 3 3, .slice (some ⟨w.heap.size + 8, 0, none⟩) 3 3] 23 (0, 0)) := by rw [← hW]; simp only [heap_al, World.size_alloc]; simp
  have f10 : W.heap[w.heap.size + 10]? = some (.cells #[.int .i64 (-2), .int .i64 (-3), .int .i64 (1)] 3 (0, 0)) := by rw [← hW]; simp only [heap_al, World.size_alloc]; simp
  have f11 : W.heap[w.heap.size + 11]? = some (.cells #[.int .i64 (-2), .int .i64 (3), .int .i64 (-1)] 3 (0, 0)) := by rw [← hW]; simp only [heap_al, World.size_alloc]; simp
  have f12 : W.heap[w.heap.size + 12]? = some (.cells #[.int .i64 (2), .int .i64 (-4), .int .i64 (1)] 3 (0, 0)) := by rw [← hW]; simp only [heap_al, World.size_alloc]; simp
  have f13 : W.heap[w.heap.size + 13]? = some (.cells #[.int .i64 (2), .int .i64 (4), .int .i64 (-1)] 3 (0, 0)) := by rw [← hW]; simp only [heap_al, World.size_alloc]; simp
  have f14 : W.heap[w.heap.size + 14]? = some (.cells #[.int .i64 (-3), .int .i64 (-4), .int .i64 (1)] 3 (0, 0)) := by rw [← hW]; simp only [heap_al, World.size_alloc]; simp
  have f15 : W.heap[w.heap.size + 15]? = some (.cells #[.int .i64 (3), .int .i64 (4), .int .i64 (-1)] 3 (0, 0)) := by rw [← hW]; simp only [heap_al, World.size_alloc]; simp
  have f16 : W.heap[w.heap.size + 16]? = some (.cells #[.slice (some ⟨w.heap.size + 10, 0, none⟩) 3 3, .slice (some ⟨w.heap.size + 11, 0, none⟩) 3 3, .slice (some ⟨w.heap.size + 12, 0, none⟩) 3 3, .slice (some ⟨w.heap.size + 13, 0, none⟩) 3 3, .slice (some ⟨w.heap.size + 14, 0, none⟩) 3 3, .slice (some ⟨w.heap.size + 15, 0, none⟩) 3 3] 23 (0, 0)) := by rw [← hW]; simp only [heap_al, World.size_alloc]; simp
  clear hW
  have g0 : LL (New w W) W (.slice (some ⟨w.heap.size + 4, 0, none⟩) 3 3) (gateTbl 0) := by
    refine LL.cons [.slice (some ⟨w.heap.size + 1, 0, none⟩) 2 2, .slice (some ⟨w.heap.size + 2, 0, none⟩) 2 2, .slice (some ⟨w.heap.size + 3, 0, none⟩) 3 3] (Sl.blk f4 (hN _ (by omega)) (by simp)) rfl ?_
    intro x hx
    simp only [gateTbl, List.zip_cons_cons, List.zip_nil_right, List.mem_cons, List.not_mem_nil, or_false] at hx
    rcases hx with rfl | rfl | rfl
    · exact Ints.blk (xs := [-1, 2]) f1 (hN _ (by omega)) (by simp)
    · exact Ints.blk (xs := [-1, 3]) f2 (hN _ (by omega)) (by simp)
    · exact Ints.blk (xs := [1, -2, -3]) f3 (hN _ (by omega)) (by simp)
  have g1 : LL (New w W) W (.slice (some ⟨w.heap.size + 9, 0, none⟩) 4 4) (gateTbl 1) := by
    refine LL.cons [.slice (some ⟨w.heap.size + 5, 0, none⟩) 3 3, .slice (some ⟨w.heap.size + 6, 0, none⟩) 3 3, .slice (some ⟨w.heap.size + 7, 0, none⟩) 3 3, .slice (some ⟨w.heap.size + 8, 0, none⟩) 3 3] (Sl.blk f9 (hN _ (by omega)) (by simp)) rfl ?_
    intro x hx
    simp only [gateTbl, List.zip_cons_cons, List.zip_nil_right, List.mem_cons, List.not_mem_nil, or_false] at hx
    rcases hx with rfl | rfl | rfl | rfl
    · exact Ints.blk (xs := [-1, 2, 3]) f5 (hN _ (by omega)) (by simp)
    · exact Ints.blk (xs := [-1, -2, -3]) f6 (hN _ (by omega)) (by simp)
    · exact Ints.blk (xs := [1, -2, 3]) f7 (hN _ (by omega)) (by simp)
    · exact Ints.blk (xs := [1, 2, -3]) f8 (hN _ (by omega)) (by simp)
  have g2 : LL (New w W) W (.slice (some ⟨w.heap.size + 16, 0, none⟩) 6 6) (gateTbl 2) := by
    refine LL.cons [.slice (some ⟨w.heap.size + 10, 0, none⟩) 3 3, .slice (some ⟨w.heap.size + 11, 0, none⟩) 3 3, .slice (some ⟨w.heap.size + 12, 0, none⟩) 3 3, .slice (some ⟨w.heap.size + 13, 0, none⟩) 3 3, .slice (some ⟨w.heap.size + 14, 0, none⟩) 3 3, .slice (some ⟨w.heap.size + 15, 0, none⟩) 3 3] (Sl.blk f16 (hN _ (by omega)) (by simp)) rfl ?_
    intro x hx
    simp only [gateTbl, List.zip_cons_cons, List.zip_nil_right, List.mem_cons, List.not_mem_nil, or_false] at hx
    rcases hx with rfl | rfl | rfl | rfl | rfl | rfl
    · exact Ints.blk (xs := [-2, -3, 1]) f10 (hN _ (by omega)) (by simp)
    · exact Ints.blk (xs := [-2, 3, -1]) f11 (hN _ (by omega)) (by simp)
    · exact Ints.blk (xs := [2, -4, 1]) f12 (hN _ (by omega)) (by simp)
    · exact Ints.blk (xs := [2, 4, -1]) f13 (hN _ (by omega)) (by simp)
    · exact Ints.blk (xs := [-3, -4, 1]) f14 (hN _ (by omega)) (by simp)
    · exact Ints.blk (xs := [3, 4, -1]) f15 (hN _ (by omega)) (by simp)
  exact ⟨_, _, _, rfl, g0, g1, g2, hb⟩

end Go.Proofs.YtjcnhnifageikaaDoor
