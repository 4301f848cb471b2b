/-
  Refused verdicts, plainly; rows that are laid.
-/
import Derived.Test.YtehjfmbnebeioaaDoorRqA
namespace Go.Proofs.YtehjfmbnebeioaaDoor
set_option linter.unusedSimpArgs false
set_option linter.unusedVariables false
open Go.RowKit Go.Shelf
attribute [local go_sem] Oper.semAt_some

/-- A verdict made valid is not refused. -/
theorem valid_not (x : Vd) (h : Mv 2 2 x) (c : Int) : failsB x c = false := by
  have hl : (vlinesR x [lvLow, lvHigh] [chPub, chSec]).1.length ≠ 0 := by
    cases h with
    | sec => rw [vl_sec]; simp
    | inc r h1 h2 => rw [vl_inc r h1 h2]; simp
    | rej pol ln co er h1 h2 => rw [vl_rej pol ln co er h1 h2]; simp
    | lk lv A B imp h1 h2 h3 => rw [vl_lk lv A B imp _ _ (by simpa using h1) (by simpa using h2) (by simpa using h3)]; simp
  unfold failsB
  rw [decide_eq_false hl]; rfl
theorem fails_of {v : Vd} {c : Int} (h : vlinesR v [lvLow, lvHigh] [chPub, chSec] = ([], c)) : failsB v c = true := by
  unfold failsB; rw [h]; simp
theorem not_bare {v : Vd} (h1 : v.kind ≤ 3) (h2 : bareR v = false) : failsB v 2 = true := fails_of (by unfold vlinesR; rw [if_neg (by omega), if_pos h2])
theorem refuse_0_0 (x : Vd) (h : Mv 2 2 x) (hk : x.kind ≠ 2) : failsB ⟨x.kind, 2, x.level, x.A, x.B, x.imp, x.pol, x.line, x.col, x.err⟩ 2 = true := not_bare (by cases h <;> simp) (by cases h <;> simp [bareR] at hk ⊢)
theorem refuse_0_1 (x : Vd) (h : Mv 2 2 x) (hk : x.kind = 2) : failsB ⟨x.kind, 5, x.level, x.A, x.B, x.imp, x.pol, x.line, x.col, x.err⟩ 3 = true := fails_of (by cases h <;> simp [vlinesR, bareR, plainR, wordR] at hk ⊢)
theorem refuse_1_0 (x : Vd) (h : Mv 2 2 x) (hk : x.kind ≠ 1) : failsB ⟨x.kind, x.reason, x.level, x.A, x.B, true, x.pol, x.line, x.col, x.err⟩ 2 = true := not_bare (by cases h <;> simp) (by cases h <;> simp [bareR] at hk ⊢)
theorem refuse_1_1 (q7 : Nat) (x : Vd) (h : Mv 2 2 x) (hk : x.kind = 1) : failsB ⟨x.kind, x.reason, (2 + (q7 : Int)), x.A, x.B, true, x.pol, x.line, x.col, x.err⟩ 3 = true := fails_of (by cases h <;> simp [vlinesR, bareR, leakR] at hk ⊢ <;> omega)
theorem refuse_2_0 (x : Vd) (h : Mv 2 2 x) (hk : x.kind ≠ 3) : failsB ⟨x.kind, x.reason, x.level, x.A, x.B, x.imp, x.pol, x.line, x.col, 4⟩ 2 = true := not_bare (by cases h <;> simp) (by cases h <;> simp [bareR] at hk ⊢)
theorem refuse_2_1 (x : Vd) (h : Mv 2 2 x) (hk : x.kind = 3) : failsB ⟨x.kind, x.reason, x.level, x.A, x.B, x.imp, x.pol, x.line, x.col, 11⟩ 3 = true := fails_of (by cases h <;> simp [vlinesR, bareR, rejectR] at hk ⊢)
theorem refuse_3_0 (x : Vd) (h : Mv 2 2 x) : failsB ⟨(4 + x.kind), x.reason, x.level, x.A, x.B, x.imp, x.pol, x.line, x.col, x.err⟩ 3 = true := fails_of (by unfold vlinesR; rw [if_pos (by dsimp only; omega)])
theorem refuse_4_0 (x : Vd) (h : Mv 2 2 x) (hk : x.kind ≠ 1) : failsB ⟨x.kind, x.reason, x.level, [[1], [2], [3]], x.B, x.imp, x.pol, x.line, x.col, x.err⟩ 2 = true := not_bare (by cases h <;> simp) (by cases h <;> simp [bareR] at hk ⊢)
theorem refuse_4_1 (x : Vd) (h : Mv 2 2 x) (hk : x.kind = 1) : failsB ⟨x.kind, x.reason, x.level, [[1], [2], [3]], x.B, x.imp, x.pol, x.line, x.col, x.err⟩ 5 = true := fails_of (by cases h <;> simp [vlinesR, bareR, leakR] at hk ⊢ <;> omega)
theorem refuse_5_0 (x : Vd) (h : Mv 2 2 x) (hk : x.kind ≠ 3) : failsB ⟨x.kind, x.reason, x.level, x.A, x.B, x.imp, true, x.line, x.col, x.err⟩ 2 = true := not_bare (by cases h <;> simp) (by cases h <;> simp [bareR] at hk ⊢)
theorem refuse_5_1 (x : Vd) (h : Mv 2 2 x) (hk : x.kind = 3) : failsB ⟨x.kind, x.reason, x.level, x.A, x.B, x.imp, true, x.line, x.col, 0⟩ 3 = true := fails_of (by cases h <;> simp [vlinesR, bareR, rejectR] at hk ⊢)

/-- Three rows of one number are laid. -/
theorem lay123 (w4 W : World) (n : Nat) (hn : w4.heap.size = n) (h : (((w4.alloc (.cells #[.int .u64 1] 37)).alloc (.cells #[.int .u64 2] 37)).alloc (.cells #[.int .u64 3] 37)).alloc (.cells #[.slice (some ⟨n, 0, none⟩) 1 1, .slice (some ⟨n + 1, 0, none⟩) 1 1, .slice (some ⟨n + 1 + 1, 0, none⟩) 1 1] 36) = W) :
    Below w4.heap.size w4 W ∧ NLL (fun i => n ≤ i ∧ i < W.heap.size) W (.slice (some ⟨n + 1 + 1 + 1, 0, none⟩) 3 3) [[1], [2], [3]] := by
  subst hn h
  generalize hq : Obj.cells #[.slice (some ⟨w4.heap.size, 0, none⟩) 1 1, .slice (some ⟨w4.heap.size + 1, 0, none⟩) 1 1, .slice (some ⟨w4.heap.size + 1 + 1, 0, none⟩) 1 1] 36 = ob
  have e1 : ∀ (a b c d : Obj) (k : Nat), ((((w4.alloc a).alloc b).alloc c).alloc d).heap[k]? = if k = w4.heap.size + 3 then some d else if k = w4.heap.size + 2 then some c else if k = w4.heap.size + 1 then some b else if k = w4.heap.size then some a else w4.heap[k]? := by
    intro a b c d k
    simp only [heap_al, World.size_alloc]
  have sz : ∀ (a b c d : Obj), ((((w4.alloc a).alloc b).alloc c).alloc d).heap.size = w4.heap.size + 4 := by intro a b c d; simp only [World.size_alloc]
  refine ⟨((((Below.refl _ _).alloc (Nat.le_refl _) _).alloc (by simp only [World.size_alloc]; omega) _).alloc (by simp only [World.size_alloc]; omega) _).alloc (by simp only [World.size_alloc]; omega) _, ?_⟩
  have row : ∀ (k : Nat) (u : Nat), k < 3 → u = k + 1 → Nums (fun i => w4.heap.size ≤ i ∧ i < w4.heap.size + 4) ((((w4.alloc (.cells #[.int .u64 1] 37)).alloc (.cells #[.int .u64 2] 37)).alloc (.cells #[.int .u64 3] 37)).alloc ob) (.slice (some ⟨w4.heap.size + k, 0, none⟩) 1 1) [u] := by
    intro k u hk hu
    refine ⟨_, 1, rfl, Nat.le_refl _, by unfold maxLen; omega, by simp, .inr ⟨_, 0, rfl, ⟨by omega, by omega⟩, fun j hj => ?_⟩⟩
    have hj0 : j = 0 := by simpa using hj
    subst hj0
    have hb : ((((w4.alloc (.cells #[.int .u64 1] 37)).alloc (.cells #[.int .u64 2] 37)).alloc (.cells #[.int .u64 3] 37)).alloc ob).heap[w4.heap.size + k]? = some (.cells #[.int .u64 (u : Int)] 37 (0, 0)) := by
      rw [e1]
      obtain rfl | rfl | rfl : k = 0 ∨ k = 1 ∨ k = 2 := by omega
      · subst hu; simp
      · subst hu; simp
      · subst hu; simp
    rw [Nat.add_zero, cell_of_row _ _ 0 _ _ _ hb]
    rfl
  refine ⟨[.slice (some ⟨w4.heap.size, 0, none⟩) 1 1, .slice (some ⟨w4.heap.size + 1, 0, none⟩) 1 1, .slice (some ⟨w4.heap.size + 1 + 1, 0, none⟩) 1 1], ⟨_, 3, rfl, Nat.le_refl _, by unfold maxLen; omega, by simp, .inr ⟨_, 0, rfl, ⟨by omega, by rw [sz]; omega⟩, fun j hj => ?_⟩⟩, rfl, fun i hi hi' => ?_⟩
  · have hb : ((((w4.alloc (.cells #[.int .u64 1] 37)).alloc (.cells #[.int .u64 2] 37)).alloc (.cells #[.int .u64 3] 37)).alloc ob).heap[w4.heap.size + 1 + 1 + 1]? = some ob := by rw [e1, if_pos rfl]
    rw [← hq] at hb
    rw [← hq, Nat.zero_add, cell_of_row _ _ j _ _ _ hb]
    have hj3 : j < 3 := hj
    obtain rfl | rfl | rfl : j = 0 ∨ j = 1 ∨ j = 2 := by omega
    · rfl
    · rfl
    · rfl
  · have hi3 : i < 3 := hi
    rw [sz]
    obtain rfl | rfl | rfl : i = 0 ∨ i = 1 ∨ i = 2 := by omega
    · exact row 0 1 (by omega) rfl
    · exact row 1 2 (by omega) rfl
    · exact row 2 3 (by omega) rfl

end Go.Proofs.YtehjfmbnebeioaaDoor
