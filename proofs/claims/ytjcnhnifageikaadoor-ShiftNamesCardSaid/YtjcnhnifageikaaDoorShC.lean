/-
  word.Apply at shifts of three bits.
-/
import Derived.Test.YtjcnhnifageikaaDoorShB
namespace Go.Proofs.YtjcnhnifageikaaDoor
set_option linter.unusedSimpArgs false
set_option linter.unusedVariables false
open Go.RowKit Go.Shelf
attribute [local go_sem] Oper.semAt_some
theorem and7 {x : Nat} (h : x < 8) : bits BinOp.and IntKind.u64 (x : Int) 7 = (x : Int) := by
  rcases lt8 h with rfl | rfl | rfl | rfl | rfl | rfl | rfl | rfl <;> decide
def aK (x y : Int) : Nat → Array Value
  | 0 => #[.int .u64 0, .int .u64 0, .int .u64 0]
  | 1 => #[.int .u64 x, .int .u64 0, .int .u64 0]
  | _ => #[.int .u64 x, .int .u64 y, .int .u64 0]

set_option maxRecDepth 100000 in
set_option maxHeartbeats 1600000 in
theorem apply_12 (x y : Nat) (hx : x < 8) (hy : y < 8) (g : Nat) (w : World) (hg : w.heap[g]? = some (.cells #[.int .u64 (x : Int), .int .u64 (y : Int)] 55 (0, 0))) :
    Calls Tryd.prog 25 #[.int .u8 12, .int .i64 3, .slice (some ⟨g, 0, none⟩) 2 2] w fun e w' => e = .returned (.tuple #[.int .u64 ((valB (shB 12 (ofB 3 x) (ofB 3 y)) : Nat) : Int), .int .i64 0]) ∧ Below w.heap.size w w' := by
  have hgs : g < w.heap.size := by
    rcases Nat.lt_or_ge g w.heap.size with h' | h'
    · exact h'
    · rw [Array.getElem?_eq_none h'] at hg; simp at hg
  have hix : ∀ w, (Instr.index 103 (.agg tableV) (.int .u8 12)).run Tryd.prog w = .ok (.agg #[.func (.func 62) #[] #[]]) w := fun _ => by kernel_rfl
  have hfl : ∀ w, (Instr.field 102 (.agg #[.func (.func 62) #[] #[]]) 0).run Tryd.prog w = .ok (.func (.func 62) #[] #[]) w := fun _ => by kernel_rfl
  have HG := hid hg; have HGS := hid hgs; have HX := hid hx; have HY := hid hy
  have HX7 := hid (and7 hx); have HY7 := hid (and7 hy)
  clear hg hgs hx hy
  go_enter Tryd.func25, Tryd.ntmps25
  go_wp2_with (first | (go_at_call 42; refine (wcheck3 _).mono ?_; rintro e w0 ⟨rfl, rfl⟩) | (go_at_call 43; refine (arity_12 _).mono ?_; rintro e w1 ⟨rfl, hb1⟩))
  obtain ⟨A, hA⟩ : ∃ A, w1.heap.size = A := ⟨_, rfl⟩
  rw [hA]
  have hAw : w.heap.size ≤ A := by rw [← hA]; exact hb1.size
  have hc0 : (World.alloc w1 (.cells #[.int .u64 0, .int .u64 0, .int .u64 0] 93)).heap[A]? = some (.cells (aK x y 0) 93 (0, 0)) := by rw [← hA, heap_al, if_pos rfl]; rfl
  have hb2 : Below w.heap.size w (World.alloc w1 (.cells #[.int .u64 0, .int .u64 0, .int .u64 0] 93)) := hb1.alloc hb1.size _
  generalize World.alloc w1 (.cells #[.int .u64 0, .int .u64 0, .int .u64 0] 93) = w2 at hc0 hb2 ⊢
  have HAW := hid hAw; have HC0 := hid hc0; have HB2 := hid hb2
  clear hAw hc0 hb2 hb1 hA

  go_loopw [42] (fun i wr => ∃ k : Nat, k ≤ 2 ∧ i = .int .i64 k ∧ wr.heap[A]? = some (.cells (aK x y k) 93 (0, 0)) ∧ Below w.heap.size w wr) (fun i _ => 2 - (intOf i).toNat)
  case atStart => exact ⟨0, by omega, rfl, HC0.out, HB2.out⟩
  case round =>
    obtain ⟨k, hk, rfl, h1, hb⟩ := hrel
    obtain ⟨wo, rfl⟩ : ∃ wo : World, wo = wr := ⟨_, rfl⟩
    have hgo : wo.heap[g]? = some (.cells #[.int .u64 (x : Int), .int .u64 (y : Int)] 55 (0, 0)) := (hb.block g HGS.out).trans HG.out
    have H1 := hid h1; have HB := hid hb
    have hal : A < wo.heap.size := by
      rcases Nat.lt_or_ge A wo.heap.size with h' | h'
      · exact h'
      · rw [Array.getElem?_eq_none h'] at h1; simp at h1
    have HAL := hid hal
    clear hal
    have hk3 : k = 0 ∨ k = 1 ∨ k = 2 := by omega
    rcases hk3 with rfl | rfl | rfl
    · have z0 : wo.cell? ⟨g, 0, none⟩ = some (.int .u64 (x : Int)) := by rw [cell_of_row wo _ 0 _ _ _ hgo]; rfl
      have a0 : wo.cell? ⟨A, 0, none⟩ = some (.int .u64 0) := by rw [cell_of_row wo _ 0 _ _ _ h1]; rfl
      have f0 : wo.frozen? ⟨A, 0, none⟩ = false := frozen_of_row wo _ 0 _ _ h1
      have h7 := HX7.out
      clear h1 hb hgo
      go_wp2_with ((go_at_call 44; refine (wmask3 _).mono ?_; rintro e w5 ⟨rfl, rfl⟩))
      go_roundw
      case rel => exact ⟨1, by omega, rfl, heap_set_cellS H1.out _, HB.out.setCell HAW.out _⟩
      case measure => (simp [intOf])
    · have z0 : wo.cell? ⟨g, 1, none⟩ = some (.int .u64 (y : Int)) := by rw [cell_of_row wo _ 1 _ _ _ hgo]; rfl
      have a0 : wo.cell? ⟨A, 1, none⟩ = some (.int .u64 0) := by rw [cell_of_row wo _ 1 _ _ _ h1]; rfl
      have f0 : wo.frozen? ⟨A, 1, none⟩ = false := frozen_of_row wo _ 1 _ _ h1
      have h7 := HY7.out
      clear h1 hb hgo
      go_wp2_with ((go_at_call 44; refine (wmask3 _).mono ?_; rintro e w5 ⟨rfl, rfl⟩))
      go_roundw
      case rel => exact ⟨2, by omega, rfl, heap_set_cellS H1.out _, HB.out.setCell HAW.out _⟩
      case measure => (simp [intOf])
    · clear h1 hb hgo
      go_wp2_with fail
      have hS : (fun W1 : World => W1.cell? ⟨A, 0, none⟩ = some (.int .u64 (x : Int)) ∧ W1.cell? ⟨A, 1, none⟩ = some (.int .u64 (y : Int))) wo.drew := ⟨by show wo.cell? _ = _; rw [cell_of_row wo _ 0 _ _ _ H1.out]; rfl, by show wo.cell? _ = _; rw [cell_of_row wo _ 1 _ _ _ H1.out]; rfl⟩
      have hFa : ∀ f, Fence.wide.fn f := fun _ => trivial
      refine (wpIn_wide (n := 9)).1 ?_
      refine wpIn_onlyN ?_
      refine wpIn_region_HJ (fun W1 : World => W1.cell? ⟨A, 0, none⟩ = some (.int .u64 (x : Int)) ∧ W1.cell? ⟨A, 1, none⟩ = some (.int .u64 (y : Int))) 10 (by kernel_rfl) ?_
      simp only [List.size_toArray, List.length_cons, List.length_nil, Nat.reduceAdd]
      refine wpHJ_pure (v := ?va1) 1 hFa rfl (by kernel_rfl) (fun _ _ _ h => h.elim) (Or.inl ⟨by rfl, ?ya1⟩) (.inr hS) ?ra1
      case ya1 => (intro w' _; go_simp; try rfl)
      simp only [Act.put, List.getElem_toArray, List.getElem_cons_succ, List.getElem_cons_zero, List.setIfInBounds_toArray, List.set_cons_zero, List.set_cons_succ]
      refine wpHJ_pure (v := ?va4) 4 hFa rfl (by kernel_rfl) (fun _ _ _ h => h.elim) (Or.inl ⟨by rfl, ?ya4⟩) (.inr hS) ?ra4
      case ya4 => (intro w' _; go_simp; try rfl)
      simp only [Act.put, List.getElem_toArray, List.getElem_cons_succ, List.getElem_cons_zero, List.setIfInBounds_toArray, List.set_cons_zero, List.set_cons_succ]
      refine wpHJ_pure (v := ?va5) 5 hFa rfl (by kernel_rfl) (fun _ _ _ h => h.elim) (Or.inl ⟨by rfl, ?ya5⟩) (.inr hS) ?ra5
      case ya5 => (intro w' _; go_simp; try rfl)
      simp only [Act.put, List.getElem_toArray, List.getElem_cons_succ, List.getElem_cons_zero, List.setIfInBounds_toArray, List.set_cons_zero, List.set_cons_succ]
      refine wpHJ_take (v := ?va6) 6 hFa rfl (by kernel_rfl) (fun _ _ _ h => h.elim) (Or.inl ⟨by rfl, ?ya6⟩) hS ?ra6
      case ya6 => (intro w' hS'; obtain ⟨s1, s2⟩ := hS'; go_simp; try rfl)
      simp only [Act.put, List.getElem_toArray, List.getElem_cons_succ, List.getElem_cons_zero, List.setIfInBounds_toArray, List.set_cons_zero, List.set_cons_succ]
      refine wpHJ_pure (v := ?va7) 7 hFa rfl (by kernel_rfl) (fun _ _ _ h => h.elim) (Or.inl ⟨by rfl, ?ya7⟩) (.inr hS) ?ra7
      case ya7 => (intro w' _; go_simp; try rfl)
      simp only [Act.put, List.getElem_toArray, List.getElem_cons_succ, List.getElem_cons_zero, List.setIfInBounds_toArray, List.set_cons_zero, List.set_cons_succ]
      refine wpHJ_take (v := ?va8) 8 hFa rfl (by kernel_rfl) (fun _ _ _ h => h.elim) (Or.inl ⟨by rfl, ?ya8⟩) hS ?ra8
      case ya8 => (intro w' hS'; obtain ⟨s1, s2⟩ := hS'; go_simp; try rfl)
      simp only [Act.put, List.getElem_toArray, List.getElem_cons_succ, List.getElem_cons_zero, List.setIfInBounds_toArray, List.set_cons_zero, List.set_cons_succ]
      refine wpHJ_only 0 (by kernel_rfl) rfl ?_
      intro K hK
      go_simp
      (with_reducible refine (callsIn_wide.2 (table_any _)).mono ?_)
      rintro e w4 ⟨rfl, hb4⟩
      have hS4 : (fun W1 : World => W1.cell? ⟨A, 0, none⟩ = some (.int .u64 (x : Int)) ∧ W1.cell? ⟨A, 1, none⟩ = some (.int .u64 (y : Int))) w4 := ⟨(hb4.cell (p := ⟨A, 0, none⟩) HAL.out).trans hS.1, (hb4.cell (p := ⟨A, 1, none⟩) HAL.out).trans hS.2⟩
      go_simp
      refine hK _ _ (.inr (.inr hS4)) ?_
      clear hK K
      refine wpHJ_pure (v := ?va2) 2 hFa rfl (by kernel_rfl) (fun _ _ _ h => h.elim) (Or.inl ⟨by rfl, ?ya2⟩) (.inr hS4) ?ra2
      case ya2 => (intro w' _; go_simp; try rfl)
      simp only [Act.put, List.getElem_toArray, List.getElem_cons_succ, List.getElem_cons_zero, List.setIfInBounds_toArray, List.set_cons_zero, List.set_cons_succ]
      refine wpHJ_pure (v := ?va3) 3 hFa rfl (by kernel_rfl) (fun _ _ _ h => h.elim) (Or.inl ⟨by rfl, ?ya3⟩) (.inr hS4) ?ra3
      case ya3 => (intro w' _; go_simp; try rfl)
      simp only [Act.put, List.getElem_toArray, List.getElem_cons_succ, List.getElem_cons_zero, List.setIfInBounds_toArray, List.set_cons_zero, List.set_cons_succ]
      refine wpHJ_only 9 (by kernel_rfl) rfl ?_
      intro K hK
      go_simp
      (with_reducible refine (callsIn_wide.2 (shl3 x y HX.out HY.out _)).mono ?_)
      rintro e w5 ⟨r, rfl, hr, rfl⟩
      go_simp
      refine hK _ _ (.inr (.inr hS4)) ?_
      clear hK K
      refine wpHJ_only 10 (by kernel_rfl) rfl ?_
      intro K hK
      go_simp
      refine hK _ _ (.inl rfl) ?_
      clear hK K
      refine wpHJ_done (by kernel_rfl) ?_ _
      simp only [onlyN, Exit.then]
      clear hFa
      have HR := hid hr
      have HB4 := hid (below_tr HB.out.drew hb4)
      clear hr hb4 hS hS4
      go_wp2_with ((go_at_call 44; refine (wmask3 _).mono ?_; rintro e w5 ⟨rfl, rfl⟩))
      go_ret2
      exact ⟨congrArg (fun n => Ending.returned (.tuple #[.int .u64 n, .int .i64 0])) HR.out, HB4.out⟩

set_option maxRecDepth 100000 in
set_option maxHeartbeats 1600000 in
theorem apply_13 (x y : Nat) (hx : x < 8) (hy : y < 8) (g : Nat) (w : World) (hg : w.heap[g]? = some (.cells #[.int .u64 (x : Int), .int .u64 (y : Int)] 55 (0, 0))) :
    Calls Tryd.prog 25 #[.int .u8 13, .int .i64 3, .slice (some ⟨g, 0, none⟩) 2 2] w fun e w' => e = .returned (.tuple #[.int .u64 ((valB (shB 13 (ofB 3 x) (ofB 3 y)) : Nat) : Int), .int .i64 0]) ∧ Below w.heap.size w w' := by
  have hgs : g < w.heap.size := by
    rcases Nat.lt_or_ge g w.heap.size with h' | h'
    · exact h'
    · rw [Array.getElem?_eq_none h'] at hg; simp at hg
  have hix : ∀ w, (Instr.index 103 (.agg tableV) (.int .u8 13)).run Tryd.prog w = .ok (.agg #[.func (.func 63) #[] #[]]) w := fun _ => by kernel_rfl
  have hfl : ∀ w, (Instr.field 102 (.agg #[.func (.func 63) #[] #[]]) 0).run Tryd.prog w = .ok (.func (.func 63) #[] #[]) w := fun _ => by kernel_rfl
  have HG := hid hg; have HGS := hid hgs; have HX := hid hx; have HY := hid hy
  have HX7 := hid (and7 hx); have HY7 := hid (and7 hy)
  clear hg hgs hx hy
  go_enter Tryd.func25, Tryd.ntmps25
  go_wp2_with (first | (go_at_call 42; refine (wcheck3 _).mono ?_; rintro e w0 ⟨rfl, rfl⟩) | (go_at_call 43; refine (arity_13 _).mono ?_; rintro e w1 ⟨rfl, hb1⟩))
  obtain ⟨A, hA⟩ : ∃ A, w1.heap.size = A := ⟨_, rfl⟩
  rw [hA]
  have hAw : w.heap.size ≤ A := by rw [← hA]; exact hb1.size
  have hc0 : (World.alloc w1 (.cells #[.int .u64 0, .int .u64 0, .int .u64 0] 93)).heap[A]? = some (.cells (aK x y 0) 93 (0, 0)) := by rw [← hA, heap_al, if_pos rfl]; rfl
  have hb2 : Below w.heap.size w (World.alloc w1 (.cells #[.int .u64 0, .int .u64 0, .int .u64 0] 93)) := hb1.alloc hb1.size _
  generalize World.alloc w1 (.cells #[.int .u64 0, .int .u64 0, .int .u64 0] 93) = w2 at hc0 hb2 ⊢
  have HAW := hid hAw; have HC0 := hid hc0; have HB2 := hid hb2
  clear hAw hc0 hb2 hb1 hA

  go_loopw [42] (fun i wr => ∃ k : Nat, k ≤ 2 ∧ i = .int .i64 k ∧ wr.heap[A]? = some (.cells (aK x y k) 93 (0, 0)) ∧ Below w.heap.size w wr) (fun i _ => 2 - (intOf i).toNat)
  case atStart => exact ⟨0, by omega, rfl, HC0.out, HB2.out⟩
  case round =>
    obtain ⟨k, hk, rfl, h1, hb⟩ := hrel
    obtain ⟨wo, rfl⟩ : ∃ wo : World, wo = wr := ⟨_, rfl⟩
    have hgo : wo.heap[g]? = some (.cells #[.int .u64 (x : Int), .int .u64 (y : Int)] 55 (0, 0)) := (hb.block g HGS.out).trans HG.out
    have H1 := hid h1; have HB := hid hb
    have hal : A < wo.heap.size := by
      rcases Nat.lt_or_ge A wo.heap.size with h' | h'
      · exact h'
      · rw [Array.getElem?_eq_none h'] at h1; simp at h1
    have HAL := hid hal
    clear hal
    have hk3 : k = 0 ∨ k = 1 ∨ k = 2 := by omega
    rcases hk3 with rfl | rfl | rfl
    · have z0 : wo.cell? ⟨g, 0, none⟩ = some (.int .u64 (x : Int)) := by rw [cell_of_row wo _ 0 _ _ _ hgo]; rfl
      have a0 : wo.cell? ⟨A, 0, none⟩ = some (.int .u64 0) := by rw [cell_of_row wo _ 0 _ _ _ h1]; rfl
      have f0 : wo.frozen? ⟨A, 0, none⟩ = false := frozen_of_row wo _ 0 _ _ h1
      have h7 := HX7.out
      clear h1 hb hgo
      go_wp2_with ((go_at_call 44; refine (wmask3 _).mono ?_; rintro e w5 ⟨rfl, rfl⟩))
      go_roundw
      case rel => exact ⟨1, by omega, rfl, heap_set_cellS H1.out _, HB.out.setCell HAW.out _⟩
      case measure => (simp [intOf])
    · have z0 : wo.cell? ⟨g, 1, none⟩ = some (.int .u64 (y : Int)) := by rw [cell_of_row wo _ 1 _ _ _ hgo]; rfl
      have a0 : wo.cell? ⟨A, 1, none⟩ = some (.int .u64 0) := by rw [cell_of_row wo _ 1 _ _ _ h1]; rfl
      have f0 : wo.frozen? ⟨A, 1, none⟩ = false := frozen_of_row wo _ 1 _ _ h1
      have h7 := HY7.out
      clear h1 hb hgo
      go_wp2_with ((go_at_call 44; refine (wmask3 _).mono ?_; rintro e w5 ⟨rfl, rfl⟩))
      go_roundw
      case rel => exact ⟨2, by omega, rfl, heap_set_cellS H1.out _, HB.out.setCell HAW.out _⟩
      case measure => (simp [intOf])
    · clear h1 hb hgo
      go_wp2_with fail
      have hS : (fun W1 : World => W1.cell? ⟨A, 0, none⟩ = some (.int .u64 (x : Int)) ∧ W1.cell? ⟨A, 1, none⟩ = some (.int .u64 (y : Int))) wo.drew := ⟨by show wo.cell? _ = _; rw [cell_of_row wo _ 0 _ _ _ H1.out]; rfl, by show wo.cell? _ = _; rw [cell_of_row wo _ 1 _ _ _ H1.out]; rfl⟩
      have hFa : ∀ f, Fence.wide.fn f := fun _ => trivial
      refine (wpIn_wide (n := 9)).1 ?_
      refine wpIn_onlyN ?_
      refine wpIn_region_HJ (fun W1 : World => W1.cell? ⟨A, 0, none⟩ = some (.int .u64 (x : Int)) ∧ W1.cell? ⟨A, 1, none⟩ = some (.int .u64 (y : Int))) 10 (by kernel_rfl) ?_
      simp only [List.size_toArray, List.length_cons, List.length_nil, Nat.reduceAdd]
      refine wpHJ_pure (v := ?va1) 1 hFa rfl (by kernel_rfl) (fun _ _ _ h => h.elim) (Or.inl ⟨by rfl, ?ya1⟩) (.inr hS) ?ra1
      case ya1 => (intro w' _; go_simp; try rfl)
      simp only [Act.put, List.getElem_toArray, List.getElem_cons_succ, List.getElem_cons_zero, List.setIfInBounds_toArray, List.set_cons_zero, List.set_cons_succ]
      refine wpHJ_pure (v := ?va4) 4 hFa rfl (by kernel_rfl) (fun _ _ _ h => h.elim) (Or.inl ⟨by rfl, ?ya4⟩) (.inr hS) ?ra4
      case ya4 => (intro w' _; go_simp; try rfl)
      simp only [Act.put, List.getElem_toArray, List.getElem_cons_succ, List.getElem_cons_zero, List.setIfInBounds_toArray, List.set_cons_zero, List.set_cons_succ]
      refine wpHJ_pure (v := ?va5) 5 hFa rfl (by kernel_rfl) (fun _ _ _ h => h.elim) (Or.inl ⟨by rfl, ?ya5⟩) (.inr hS) ?ra5
      case ya5 => (intro w' _; go_simp; try rfl)
      simp only [Act.put, List.getElem_toArray, List.getElem_cons_succ, List.getElem_cons_zero, List.setIfInBounds_toArray, List.set_cons_zero, List.set_cons_succ]
      refine wpHJ_take (v := ?va6) 6 hFa rfl (by kernel_rfl) (fun _ _ _ h => h.elim) (Or.inl ⟨by rfl, ?ya6⟩) hS ?ra6
      case ya6 => (intro w' hS'; obtain ⟨s1, s2⟩ := hS'; go_simp; try rfl)
      simp only [Act.put, List.getElem_toArray, List.getElem_cons_succ, List.getElem_cons_zero, List.setIfInBounds_toArray, List.set_cons_zero, List.set_cons_succ]
      refine wpHJ_pure (v := ?va7) 7 hFa rfl (by kernel_rfl) (fun _ _ _ h => h.elim) (Or.inl ⟨by rfl, ?ya7⟩) (.inr hS) ?ra7
      case ya7 => (intro w' _; go_simp; try rfl)
      simp only [Act.put, List.getElem_toArray, List.getElem_cons_succ, List.getElem_cons_zero, List.setIfInBounds_toArray, List.set_cons_zero, List.set_cons_succ]
      refine wpHJ_take (v := ?va8) 8 hFa rfl (by kernel_rfl) (fun _ _ _ h => h.elim) (Or.inl ⟨by rfl, ?ya8⟩) hS ?ra8
      case ya8 => (intro w' hS'; obtain ⟨s1, s2⟩ := hS'; go_simp; try rfl)
      simp only [Act.put, List.getElem_toArray, List.getElem_cons_succ, List.getElem_cons_zero, List.setIfInBounds_toArray, List.set_cons_zero, List.set_cons_succ]
      refine wpHJ_only 0 (by kernel_rfl) rfl ?_
      intro K hK
      go_simp
      (with_reducible refine (callsIn_wide.2 (table_any _)).mono ?_)
      rintro e w4 ⟨rfl, hb4⟩
      have hS4 : (fun W1 : World => W1.cell? ⟨A, 0, none⟩ = some (.int .u64 (x : Int)) ∧ W1.cell? ⟨A, 1, none⟩ = some (.int .u64 (y : Int))) w4 := ⟨(hb4.cell (p := ⟨A, 0, none⟩) HAL.out).trans hS.1, (hb4.cell (p := ⟨A, 1, none⟩) HAL.out).trans hS.2⟩
      go_simp
      refine hK _ _ (.inr (.inr hS4)) ?_
      clear hK K
      refine wpHJ_pure (v := ?va2) 2 hFa rfl (by kernel_rfl) (fun _ _ _ h => h.elim) (Or.inl ⟨by rfl, ?ya2⟩) (.inr hS4) ?ra2
      case ya2 => (intro w' _; go_simp; try rfl)
      simp only [Act.put, List.getElem_toArray, List.getElem_cons_succ, List.getElem_cons_zero, List.setIfInBounds_toArray, List.set_cons_zero, List.set_cons_succ]
      refine wpHJ_pure (v := ?va3) 3 hFa rfl (by kernel_rfl) (fun _ _ _ h => h.elim) (Or.inl ⟨by rfl, ?ya3⟩) (.inr hS4) ?ra3
      case ya3 => (intro w' _; go_simp; try rfl)
      simp only [Act.put, List.getElem_toArray, List.getElem_cons_succ, List.getElem_cons_zero, List.setIfInBounds_toArray, List.set_cons_zero, List.set_cons_succ]
      refine wpHJ_only 9 (by kernel_rfl) rfl ?_
      intro K hK
      go_simp
      (with_reducible refine (callsIn_wide.2 (shr3 x y HX.out HY.out _)).mono ?_)
      rintro e w5 ⟨r, rfl, hr, rfl⟩
      go_simp
      refine hK _ _ (.inr (.inr hS4)) ?_
      clear hK K
      refine wpHJ_only 10 (by kernel_rfl) rfl ?_
      intro K hK
      go_simp
      refine hK _ _ (.inl rfl) ?_
      clear hK K
      refine wpHJ_done (by kernel_rfl) ?_ _
      simp only [onlyN, Exit.then]
      clear hFa
      have HR := hid hr
      have HB4 := hid (below_tr HB.out.drew hb4)
      clear hr hb4 hS hS4
      go_wp2_with ((go_at_call 44; refine (wmask3 _).mono ?_; rintro e w5 ⟨rfl, rfl⟩))
      go_ret2
      exact ⟨congrArg (fun n => Ending.returned (.tuple #[.int .u64 n, .int .i64 0])) HR.out, HB4.out⟩

set_option maxRecDepth 100000 in
set_option maxHeartbeats 1600000 in
theorem apply_14 (x y : Nat) (hx : x < 8) (hy : y < 8) (g : Nat) (w : World) (hg : w.heap[g]? = some (.cells #[.int .u64 (x : Int), .int .u64 (y : Int)] 55 (0, 0))) :
    Calls Tryd.prog 25 #[.int .u8 14, .int .i64 3, .slice (some ⟨g, 0, none⟩) 2 2] w fun e w' => e = .returned (.tuple #[.int .u64 ((valB (shB 14 (ofB 3 x) (ofB 3 y)) : Nat) : Int), .int .i64 0]) ∧ Below w.heap.size w w' := by
  have hgs : g < w.heap.size := by
    rcases Nat.lt_or_ge g w.heap.size with h' | h'
    · exact h'
    · rw [Array.getElem?_eq_none h'] at hg; simp at hg
  have hix : ∀ w, (Instr.index 103 (.agg tableV) (.int .u8 14)).run Tryd.prog w = .ok (.agg #[.func (.func 64) #[] #[]]) w := fun _ => by kernel_rfl
  have hfl : ∀ w, (Instr.field 102 (.agg #[.func (.func 64) #[] #[]]) 0).run Tryd.prog w = .ok (.func (.func 64) #[] #[]) w := fun _ => by kernel_rfl
  have HG := hid hg; have HGS := hid hgs; have HX := hid hx; have HY := hid hy
  have HX7 := hid (and7 hx); have HY7 := hid (and7 hy)
  clear hg hgs hx hy
  go_enter Tryd.func25, Tryd.ntmps25
  go_wp2_with (first | (go_at_call 42; refine (wcheck3 _).mono ?_; rintro e w0 ⟨rfl, rfl⟩) | (go_at_call 43; refine (arity_14 _).mono ?_; rintro e w1 ⟨rfl, hb1⟩))
  obtain ⟨A, hA⟩ : ∃ A, w1.heap.size = A := ⟨_, rfl⟩
  rw [hA]
  have hAw : w.heap.size ≤ A := by rw [← hA]; exact hb1.size
  have hc0 : (World.alloc w1 (.cells #[.int .u64 0, .int .u64 0, .int .u64 0] 93)).heap[A]? = some (.cells (aK x y 0) 93 (0, 0)) := by rw [← hA, heap_al, if_pos rfl]; rfl
  have hb2 : Below w.heap.size w (World.alloc w1 (.cells #[.int .u64 0, .int .u64 0, .int .u64 0] 93)) := hb1.alloc hb1.size _
  generalize World.alloc w1 (.cells #[.int .u64 0, .int .u64 0, .int .u64 0] 93) = w2 at hc0 hb2 ⊢
  have HAW := hid hAw; have HC0 := hid hc0; have HB2 := hid hb2
  clear hAw hc0 hb2 hb1 hA

  go_loopw [42] (fun i wr => ∃ k : Nat, k ≤ 2 ∧ i = .int .i64 k ∧ wr.heap[A]? = some (.cells (aK x y k) 93 (0, 0)) ∧ Below w.heap.size w wr) (fun i _ => 2 - (intOf i).toNat)
  case atStart => exact ⟨0, by omega, rfl, HC0.out, HB2.out⟩
  case round =>
    obtain ⟨k, hk, rfl, h1, hb⟩ := hrel
    obtain ⟨wo, rfl⟩ : ∃ wo : World, wo = wr := ⟨_, rfl⟩
    have hgo : wo.heap[g]? = some (.cells #[.int .u64 (x : Int), .int .u64 (y : Int)] 55 (0, 0)) := (hb.block g HGS.out).trans HG.out
    have H1 := hid h1; have HB := hid hb
    have hal : A < wo.heap.size := by
      rcases Nat.lt_or_ge A wo.heap.size with h' | h'
      · exact h'
      · rw [Array.getElem?_eq_none h'] at h1; simp at h1
    have HAL := hid hal
    clear hal
    have hk3 : k = 0 ∨ k = 1 ∨ k = 2 := by omega
    rcases hk3 with rfl | rfl | rfl
    · have z0 : wo.cell? ⟨g, 0, none⟩ = some (.int .u64 (x : Int)) := by rw [cell_of_row wo _ 0 _ _ _ hgo]; rfl
      have a0 : wo.cell? ⟨A, 0, none⟩ = some (.int .u64 0) := by rw [cell_of_row wo _ 0 _ _ _ h1]; rfl
      have f0 : wo.frozen? ⟨A, 0, none⟩ = false := frozen_of_row wo _ 0 _ _ h1
      have h7 := HX7.out
      clear h1 hb hgo
      go_wp2_with ((go_at_call 44; refine (wmask3 _).mono ?_; rintro e w5 ⟨rfl, rfl⟩))
      go_roundw
      case rel => exact ⟨1, by omega, rfl, heap_set_cellS H1.out _, HB.out.setCell HAW.out _⟩
      case measure => (simp [intOf])
    · have z0 : wo.cell? ⟨g, 1, none⟩ = some (.int .u64 (y : Int)) := by rw [cell_of_row wo _ 1 _ _ _ hgo]; rfl
      have a0 : wo.cell? ⟨A, 1, none⟩ = some (.int .u64 0) := by rw [cell_of_row wo _ 1 _ _ _ h1]; rfl
      have f0 : wo.frozen? ⟨A, 1, none⟩ = false := frozen_of_row wo _ 1 _ _ h1
      have h7 := HY7.out
      clear h1 hb hgo
      go_wp2_with ((go_at_call 44; refine (wmask3 _).mono ?_; rintro e w5 ⟨rfl, rfl⟩))
      go_roundw
      case rel => exact ⟨2, by omega, rfl, heap_set_cellS H1.out _, HB.out.setCell HAW.out _⟩
      case measure => (simp [intOf])
    · clear h1 hb hgo
      go_wp2_with fail
      have hS : (fun W1 : World => W1.cell? ⟨A, 0, none⟩ = some (.int .u64 (x : Int)) ∧ W1.cell? ⟨A, 1, none⟩ = some (.int .u64 (y : Int))) wo.drew := ⟨by show wo.cell? _ = _; rw [cell_of_row wo _ 0 _ _ _ H1.out]; rfl, by show wo.cell? _ = _; rw [cell_of_row wo _ 1 _ _ _ H1.out]; rfl⟩
      have hFa : ∀ f, Fence.wide.fn f := fun _ => trivial
      refine (wpIn_wide (n := 9)).1 ?_
      refine wpIn_onlyN ?_
      refine wpIn_region_HJ (fun W1 : World => W1.cell? ⟨A, 0, none⟩ = some (.int .u64 (x : Int)) ∧ W1.cell? ⟨A, 1, none⟩ = some (.int .u64 (y : Int))) 10 (by kernel_rfl) ?_
      simp only [List.size_toArray, List.length_cons, List.length_nil, Nat.reduceAdd]
      refine wpHJ_pure (v := ?va1) 1 hFa rfl (by kernel_rfl) (fun _ _ _ h => h.elim) (Or.inl ⟨by rfl, ?ya1⟩) (.inr hS) ?ra1
      case ya1 => (intro w' _; go_simp; try rfl)
      simp only [Act.put, List.getElem_toArray, List.getElem_cons_succ, List.getElem_cons_zero, List.setIfInBounds_toArray, List.set_cons_zero, List.set_cons_succ]
      refine wpHJ_pure (v := ?va4) 4 hFa rfl (by kernel_rfl) (fun _ _ _ h => h.elim) (Or.inl ⟨by rfl, ?ya4⟩) (.inr hS) ?ra4
      case ya4 => (intro w' _; go_simp; try rfl)
      simp only [Act.put, List.getElem_toArray, List.getElem_cons_succ, List.getElem_cons_zero, List.setIfInBounds_toArray, List.set_cons_zero, List.set_cons_succ]
      refine wpHJ_pure (v := ?va5) 5 hFa rfl (by kernel_rfl) (fun _ _ _ h => h.elim) (Or.inl ⟨by rfl, ?ya5⟩) (.inr hS) ?ra5
      case ya5 => (intro w' _; go_simp; try rfl)
      simp only [Act.put, List.getElem_toArray, List.getElem_cons_succ, List.getElem_cons_zero, List.setIfInBounds_toArray, List.set_cons_zero, List.set_cons_succ]
      refine wpHJ_take (v := ?va6) 6 hFa rfl (by kernel_rfl) (fun _ _ _ h => h.elim) (Or.inl ⟨by rfl, ?ya6⟩) hS ?ra6
      case ya6 => (intro w' hS'; obtain ⟨s1, s2⟩ := hS'; go_simp; try rfl)
      simp only [Act.put, List.getElem_toArray, List.getElem_cons_succ, List.getElem_cons_zero, List.setIfInBounds_toArray, List.set_cons_zero, List.set_cons_succ]
      refine wpHJ_pure (v := ?va7) 7 hFa rfl (by kernel_rfl) (fun _ _ _ h => h.elim) (Or.inl ⟨by rfl, ?ya7⟩) (.inr hS) ?ra7
      case ya7 => (intro w' _; go_simp; try rfl)
      simp only [Act.put, List.getElem_toArray, List.getElem_cons_succ, List.getElem_cons_zero, List.setIfInBounds_toArray, List.set_cons_zero, List.set_cons_succ]
      refine wpHJ_take (v := ?va8) 8 hFa rfl (by kernel_rfl) (fun _ _ _ h => h.elim) (Or.inl ⟨by rfl, ?ya8⟩) hS ?ra8
      case ya8 => (intro w' hS'; obtain ⟨s1, s2⟩ := hS'; go_simp; try rfl)
      simp only [Act.put, List.getElem_toArray, List.getElem_cons_succ, List.getElem_cons_zero, List.setIfInBounds_toArray, List.set_cons_zero, List.set_cons_succ]
      refine wpHJ_only 0 (by kernel_rfl) rfl ?_
      intro K hK
      go_simp
      (with_reducible refine (callsIn_wide.2 (table_any _)).mono ?_)
      rintro e w4 ⟨rfl, hb4⟩
      have hS4 : (fun W1 : World => W1.cell? ⟨A, 0, none⟩ = some (.int .u64 (x : Int)) ∧ W1.cell? ⟨A, 1, none⟩ = some (.int .u64 (y : Int))) w4 := ⟨(hb4.cell (p := ⟨A, 0, none⟩) HAL.out).trans hS.1, (hb4.cell (p := ⟨A, 1, none⟩) HAL.out).trans hS.2⟩
      go_simp
      refine hK _ _ (.inr (.inr hS4)) ?_
      clear hK K
      refine wpHJ_pure (v := ?va2) 2 hFa rfl (by kernel_rfl) (fun _ _ _ h => h.elim) (Or.inl ⟨by rfl, ?ya2⟩) (.inr hS4) ?ra2
      case ya2 => (intro w' _; go_simp; try rfl)
      simp only [Act.put, List.getElem_toArray, List.getElem_cons_succ, List.getElem_cons_zero, List.setIfInBounds_toArray, List.set_cons_zero, List.set_cons_succ]
      refine wpHJ_pure (v := ?va3) 3 hFa rfl (by kernel_rfl) (fun _ _ _ h => h.elim) (Or.inl ⟨by rfl, ?ya3⟩) (.inr hS4) ?ra3
      case ya3 => (intro w' _; go_simp; try rfl)
      simp only [Act.put, List.getElem_toArray, List.getElem_cons_succ, List.getElem_cons_zero, List.setIfInBounds_toArray, List.set_cons_zero, List.set_cons_succ]
      refine wpHJ_only 9 (by kernel_rfl) rfl ?_
      intro K hK
      go_simp
      (with_reducible refine (callsIn_wide.2 (sar3 x y HX.out HY.out _)).mono ?_)
      rintro e w5 ⟨r, rfl, hr, rfl⟩
      go_simp
      refine hK _ _ (.inr (.inr hS4)) ?_
      clear hK K
      refine wpHJ_only 10 (by kernel_rfl) rfl ?_
      intro K hK
      go_simp
      refine hK _ _ (.inl rfl) ?_
      clear hK K
      refine wpHJ_done (by kernel_rfl) ?_ _
      simp only [onlyN, Exit.then]
      clear hFa
      have HR := hid hr
      have HB4 := hid (below_tr HB.out.drew hb4)
      clear hr hb4 hS hS4
      go_wp2_with ((go_at_call 44; refine (wmask3 _).mono ?_; rintro e w5 ⟨rfl, rfl⟩))
      go_ret2
      exact ⟨congrArg (fun n => Ending.returned (.tuple #[.int .u64 n, .int .i64 0])) HR.out, HB4.out⟩

end Go.Proofs.YtjcnhnifageikaaDoor
