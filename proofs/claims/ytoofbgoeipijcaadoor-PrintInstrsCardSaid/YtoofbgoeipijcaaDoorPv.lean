/-
  The reference: what an operator is called and wants; the fields of a kind.
-/
import Derived.Test.YtoofbgoeipijcaaDoorPt
import Derived.IntWalk
import Derived.Deep.DeepCutAuto
namespace Go.Proofs.YtoofbgoeipijcaaDoor
set_option linter.unusedSimpArgs false
set_option linter.unusedVariables false
open Go.RowKit Go.Shelf
attribute [local go_sem] Oper.semAt_some

set_option maxRecDepth 100000 in
set_option maxHeartbeats 2000000 in
theorem rarity_any (o : Nat) (ho : 2 ≤ o ∧ o ≤ 20) (w : World) : Calls Tryd.prog 50 #[.int .u8 (o : Int)] w fun e w' => e = .returned (.tuple #[.int .i64 (arityM o : Int), .int .i64 0]) ∧ w' = w := by
  have g1 : decide ((21 : Int) < (o : Int)) = false := by simp; omega
  have g2 : decide ((o : Int) ≤ 1) = false := by simp; omega
  have g4 : ((o : Int) == 21) = false := by simp; omega
  by_cases h : o ≤ 3
  · have g3 : decide ((o : Int) ≤ 3) = true := by simp; omega
    have HA := hid (show arityM o = 1 from by unfold arityM; rw [if_neg (by omega), if_pos h])
    clear h ho
    go_enter Tryd.func50, Tryd.ntmps50
    go_wp2_with fail
    go_ret2
    exact ⟨by rw [HA.out]; rfl, rfl⟩
  · have g3 : decide ((o : Int) ≤ 3) = false := by simp; omega
    have HA := hid (show arityM o = 2 from by unfold arityM; rw [if_neg (by omega), if_neg h, if_neg (by omega)])
    clear h ho
    go_enter Tryd.func50, Tryd.ntmps50
    go_wp2_with fail
    go_ret2
    exact ⟨by rw [HA.out]; rfl, rfl⟩
set_option maxRecDepth 100000 in
set_option maxHeartbeats 2000000 in
theorem ropname_any (o : Nat) (ho : 2 ≤ o ∧ o ≤ 20) (w : World) : Calls Tryd.prog 24 #[.int .u8 (o : Int)] w fun e w' => e = .returned (.tuple #[.string ⟨(opT o).toArray⟩, .int .i64 0]) ∧ Below w.heap.size w w' := by
  have g1 : decide ((21 : Int) < (o : Int)) = false := by simp; omega
  have g2 : decide ((o : Int) < 2) = false := by simp; omega
  obtain ⟨k, hk⟩ : ∃ k, o = k + 2 := ⟨o - 2, by omega⟩
  have hk20 : k < opL.length := by show k < 20; omega
  have g3 : (o : Int) - 2 = (k : Int) := by omega
  have g4 : k < 20 := hk20
  have hc : ∀ w : World, (w.alloc (.cells (opL.map sv).toArray 9)).cell? ⟨w.heap.size, k, none⟩ = some (.string ⟨opL[k].toArray⟩) := fun w => lit_at w 9 opL k hk20
  have HT := hid (show opT o = opL[k] from by unfold opT; rw [hk, List.getD_eq_getElem?_getD, Nat.add_sub_cancel, List.getElem?_eq_getElem hk20]; rfl)
  generalize opL[k] = x at *
  have hgk : IntKind.u8.wrap ((o : Int) - 2) = (k : Int) := by rw [g3]; exact IntWalk.u8_in _ (by omega)
  clear hk ho
  go_enter Tryd.func24, Tryd.ntmps24
  go_wp2_with (go_at_call 53; (refine (rnames_any _).mono ?_); rintro e w1 ⟨rfl, hw1⟩; have hc1 : w1.cell? ⟨w.heap.size, k, none⟩ = some (.string ⟨x.toArray⟩) := (by rw [hw1]; exact hc w); have HB1 := hid (show Below w.heap.size w w1 from by rw [hw1]; exact (Below.refl _ _).alloc (Nat.le_refl _) _); clear hw1)
  go_ret2
  exact ⟨by rw [HT.out]; rfl, HB1.out⟩

set_option maxRecDepth 100000 in
theorem rfields_0 (w : World) : Calls Tryd.prog 49 #[.int .u8 0] w fun e w' => e = .returned (.tuple #[.agg #[.bool true, .bool false, .int .i64 1], .bool true]) ∧ Below w.heap.size w w' := by
  go_enter Tryd.func49, Tryd.ntmps49
  go_wp2_with fail
  refine bodyPost_ret (v := .tuple #[.agg #[.bool true, .bool false, .int .i64 1], .bool true]) (by simp [results, Tryd.results49, go_sem]) rfl ?_
  exact ⟨rfl, (Below.refl _ _).alloc (Nat.le_refl _) _⟩

set_option maxRecDepth 100000 in
theorem rfields_1 (w : World) : Calls Tryd.prog 49 #[.int .u8 1] w fun e w' => e = .returned (.tuple #[.agg #[.bool true, .bool false, .int .i64 (-1)], .bool true]) ∧ Below w.heap.size w w' := by
  go_enter Tryd.func49, Tryd.ntmps49
  go_wp2_with fail
  refine bodyPost_ret (v := .tuple #[.agg #[.bool true, .bool false, .int .i64 (-1)], .bool true]) (by simp [results, Tryd.results49, go_sem]) rfl ?_
  exact ⟨rfl, (Below.refl _ _).alloc (Nat.le_refl _) _⟩

set_option maxRecDepth 100000 in
theorem rfields_2 (w : World) : Calls Tryd.prog 49 #[.int .u8 2] w fun e w' => e = .returned (.tuple #[.agg #[.bool true, .bool true, .int .i64 1], .bool true]) ∧ Below w.heap.size w w' := by
  go_enter Tryd.func49, Tryd.ntmps49
  go_wp2_with fail
  refine bodyPost_ret (v := .tuple #[.agg #[.bool true, .bool true, .int .i64 1], .bool true]) (by simp [results, Tryd.results49, go_sem]) rfl ?_
  exact ⟨rfl, (Below.refl _ _).alloc (Nat.le_refl _) _⟩

set_option maxRecDepth 100000 in
theorem rfields_3 (w : World) : Calls Tryd.prog 49 #[.int .u8 3] w fun e w' => e = .returned (.tuple #[.agg #[.bool false, .bool true, .int .i64 2], .bool true]) ∧ Below w.heap.size w w' := by
  go_enter Tryd.func49, Tryd.ntmps49
  go_wp2_with fail
  refine bodyPost_ret (v := .tuple #[.agg #[.bool false, .bool true, .int .i64 2], .bool true]) (by simp [results, Tryd.results49, go_sem]) rfl ?_
  exact ⟨rfl, (Below.refl _ _).alloc (Nat.le_refl _) _⟩

set_option maxRecDepth 100000 in
theorem rfields_4 (w : World) : Calls Tryd.prog 49 #[.int .u8 4] w fun e w' => e = .returned (.tuple #[.agg #[.bool true, .bool true, .int .i64 (-1)], .bool true]) ∧ Below w.heap.size w w' := by
  go_enter Tryd.func49, Tryd.ntmps49
  go_wp2_with fail
  refine bodyPost_ret (v := .tuple #[.agg #[.bool true, .bool true, .int .i64 (-1)], .bool true]) (by simp [results, Tryd.results49, go_sem]) rfl ?_
  exact ⟨rfl, (Below.refl _ _).alloc (Nat.le_refl _) _⟩

set_option maxRecDepth 100000 in
theorem rfields_5 (w : World) : Calls Tryd.prog 49 #[.int .u8 5] w fun e w' => e = .returned (.tuple #[.agg #[.bool true, .bool true, .int .i64 0], .bool true]) ∧ Below w.heap.size w w' := by
  go_enter Tryd.func49, Tryd.ntmps49
  go_wp2_with fail
  refine bodyPost_ret (v := .tuple #[.agg #[.bool true, .bool true, .int .i64 0], .bool true]) (by simp [results, Tryd.results49, go_sem]) rfl ?_
  exact ⟨rfl, (Below.refl _ _).alloc (Nat.le_refl _) _⟩

set_option maxRecDepth 100000 in
theorem rfields_6 (w : World) : Calls Tryd.prog 49 #[.int .u8 6] w fun e w' => e = .returned (.tuple #[.agg #[.bool false, .bool true, .int .i64 1], .bool true]) ∧ Below w.heap.size w w' := by
  go_enter Tryd.func49, Tryd.ntmps49
  go_wp2_with fail
  refine bodyPost_ret (v := .tuple #[.agg #[.bool false, .bool true, .int .i64 1], .bool true]) (by simp [results, Tryd.results49, go_sem]) rfl ?_
  exact ⟨rfl, (Below.refl _ _).alloc (Nat.le_refl _) _⟩

set_option maxRecDepth 100000 in
theorem rfields_7 (w : World) : Calls Tryd.prog 49 #[.int .u8 7] w fun e w' => e = .returned (.tuple #[.agg #[.bool true, .bool true, .int .i64 1], .bool true]) ∧ Below w.heap.size w w' := by
  go_enter Tryd.func49, Tryd.ntmps49
  go_wp2_with fail
  refine bodyPost_ret (v := .tuple #[.agg #[.bool true, .bool true, .int .i64 1], .bool true]) (by simp [results, Tryd.results49, go_sem]) rfl ?_
  exact ⟨rfl, (Below.refl _ _).alloc (Nat.le_refl _) _⟩

set_option maxRecDepth 100000 in
theorem rfields_8 (w : World) : Calls Tryd.prog 49 #[.int .u8 8] w fun e w' => e = .returned (.tuple #[.agg #[.bool false, .bool true, .int .i64 0], .bool true]) ∧ Below w.heap.size w w' := by
  go_enter Tryd.func49, Tryd.ntmps49
  go_wp2_with fail
  refine bodyPost_ret (v := .tuple #[.agg #[.bool false, .bool true, .int .i64 0], .bool true]) (by simp [results, Tryd.results49, go_sem]) rfl ?_
  exact ⟨rfl, (Below.refl _ _).alloc (Nat.le_refl _) _⟩

set_option maxRecDepth 100000 in
theorem rfields_9 (w : World) : Calls Tryd.prog 49 #[.int .u8 9] w fun e w' => e = .returned (.tuple #[.agg #[.bool false, .bool true, .int .i64 1], .bool true]) ∧ Below w.heap.size w w' := by
  go_enter Tryd.func49, Tryd.ntmps49
  go_wp2_with fail
  refine bodyPost_ret (v := .tuple #[.agg #[.bool false, .bool true, .int .i64 1], .bool true]) (by simp [results, Tryd.results49, go_sem]) rfl ?_
  exact ⟨rfl, (Below.refl _ _).alloc (Nat.le_refl _) _⟩

set_option maxRecDepth 100000 in
theorem rfields_10 (w : World) : Calls Tryd.prog 49 #[.int .u8 10] w fun e w' => e = .returned (.tuple #[.agg #[.bool false, .bool true, .int .i64 0], .bool true]) ∧ Below w.heap.size w w' := by
  go_enter Tryd.func49, Tryd.ntmps49
  go_wp2_with fail
  refine bodyPost_ret (v := .tuple #[.agg #[.bool false, .bool true, .int .i64 0], .bool true]) (by simp [results, Tryd.results49, go_sem]) rfl ?_
  exact ⟨rfl, (Below.refl _ _).alloc (Nat.le_refl _) _⟩

set_option maxRecDepth 100000 in
theorem rfields_11 (w : World) : Calls Tryd.prog 49 #[.int .u8 11] w fun e w' => e = .returned (.tuple #[.agg #[.bool false, .bool false, .int .i64 0], .bool true]) ∧ Below w.heap.size w w' := by
  go_enter Tryd.func49, Tryd.ntmps49
  go_wp2_with fail
  refine bodyPost_ret (v := .tuple #[.agg #[.bool false, .bool false, .int .i64 0], .bool true]) (by simp [results, Tryd.results49, go_sem]) rfl ?_
  exact ⟨rfl, (Below.refl _ _).alloc (Nat.le_refl _) _⟩

set_option maxRecDepth 100000 in
theorem rfields_12 (w : World) : Calls Tryd.prog 49 #[.int .u8 12] w fun e w' => e = .returned (.tuple #[.agg #[.bool false, .bool false, .int .i64 1], .bool true]) ∧ Below w.heap.size w w' := by
  go_enter Tryd.func49, Tryd.ntmps49
  go_wp2_with fail
  refine bodyPost_ret (v := .tuple #[.agg #[.bool false, .bool false, .int .i64 1], .bool true]) (by simp [results, Tryd.results49, go_sem]) rfl ?_
  exact ⟨rfl, (Below.refl _ _).alloc (Nat.le_refl _) _⟩

set_option maxRecDepth 100000 in
theorem rfields_x (kind : Nat) (hk : 13 ≤ kind) (w : World) : Calls Tryd.prog 49 #[.int .u8 (kind : Int)] w fun e w' => e = .returned (.tuple #[.agg #[.bool false, .bool false, .int .i64 0], .bool false]) ∧ Below w.heap.size w w' := by
  have t0 : ((kind : Int) == 0) = false := by simp; omega
  have t1 : ((kind : Int) == 1) = false := by simp; omega
  have t2 : ((kind : Int) == 2) = false := by simp; omega
  have t3 : ((kind : Int) == 3) = false := by simp; omega
  have t4 : ((kind : Int) == 4) = false := by simp; omega
  have t5 : ((kind : Int) == 5) = false := by simp; omega
  have t6 : ((kind : Int) == 6) = false := by simp; omega
  have t7 : ((kind : Int) == 7) = false := by simp; omega
  have t8 : ((kind : Int) == 8) = false := by simp; omega
  have t9 : ((kind : Int) == 9) = false := by simp; omega
  have t10 : ((kind : Int) == 10) = false := by simp; omega
  have t11 : ((kind : Int) == 11) = false := by simp; omega
  have t12 : ((kind : Int) == 12) = false := by simp; omega
  clear hk
  go_enter Tryd.func49, Tryd.ntmps49
  go_wp2_with fail
  refine bodyPost_ret (v := .tuple #[.agg #[.bool false, .bool false, .int .i64 0], .bool false]) (by simp [results, Tryd.results49, go_sem]) rfl ?_
  exact ⟨rfl, (Below.refl _ _).alloc (Nat.le_refl _) _⟩

end Go.Proofs.YtoofbgoeipijcaaDoor
