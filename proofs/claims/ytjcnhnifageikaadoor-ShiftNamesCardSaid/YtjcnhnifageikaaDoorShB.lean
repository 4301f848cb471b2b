/-
  word's functions for shifts of three bits.
-/
import Derived.Test.YtjcnhnifageikaaDoorShA
namespace Go.Proofs.YtjcnhnifageikaaDoor
set_option linter.unusedSimpArgs false
set_option linter.unusedVariables false
open Go.RowKit Go.Shelf
attribute [local go_sem] Oper.semAt_some
theorem lt8 {x : Nat} (h : x < 8) : x = 0 ∨ x = 1 ∨ x = 2 ∨ x = 3 ∨ x = 4 ∨ x = 5 ∨ x = 6 ∨ x = 7 := by omega

set_option maxRecDepth 100000 in
set_option maxHeartbeats 400000 in
theorem high3_0 (w : World) : Calls Tryd.prog 74 #[.int .i64 3, .int .u64 0] w fun e w' => e = .returned (.bool false) ∧ w = w' := by
  have e0 : bits BinOp.and IntKind.u64 0 1 = 0 := by decide
  go_enter Tryd.func74, Tryd.ntmps74
  go_wp2
  go_ret
  exact ⟨rfl, rfl⟩

set_option maxRecDepth 100000 in
set_option maxHeartbeats 400000 in
theorem signed3_0 (w : World) : Calls Tryd.prog 72 #[.int .i64 3, .int .u64 0] w fun e w' => e = .returned (.int .i64 (0)) ∧ w = w' := by
  go_enter Tryd.func72, Tryd.ntmps72
  go_wp2_with (first | (go_at_call 74; refine (high3_0 _).mono ?_; rintro e w1 ⟨rfl, rfl⟩) | (go_at_call 44; refine (wmask3 _).mono ?_; rintro e w1 ⟨rfl, rfl⟩))
  go_ret
  exact ⟨rfl, rfl⟩

set_option maxRecDepth 100000 in
set_option maxHeartbeats 400000 in
theorem high3_1 (w : World) : Calls Tryd.prog 74 #[.int .i64 3, .int .u64 1] w fun e w' => e = .returned (.bool false) ∧ w = w' := by
  have e0 : bits BinOp.and IntKind.u64 0 1 = 0 := by decide
  go_enter Tryd.func74, Tryd.ntmps74
  go_wp2
  go_ret
  exact ⟨rfl, rfl⟩

set_option maxRecDepth 100000 in
set_option maxHeartbeats 400000 in
theorem signed3_1 (w : World) : Calls Tryd.prog 72 #[.int .i64 3, .int .u64 1] w fun e w' => e = .returned (.int .i64 (1)) ∧ w = w' := by
  go_enter Tryd.func72, Tryd.ntmps72
  go_wp2_with (first | (go_at_call 74; refine (high3_1 _).mono ?_; rintro e w1 ⟨rfl, rfl⟩) | (go_at_call 44; refine (wmask3 _).mono ?_; rintro e w1 ⟨rfl, rfl⟩))
  go_ret
  exact ⟨rfl, rfl⟩

set_option maxRecDepth 100000 in
set_option maxHeartbeats 400000 in
theorem high3_2 (w : World) : Calls Tryd.prog 74 #[.int .i64 3, .int .u64 2] w fun e w' => e = .returned (.bool false) ∧ w = w' := by
  have e0 : bits BinOp.and IntKind.u64 0 1 = 0 := by decide
  go_enter Tryd.func74, Tryd.ntmps74
  go_wp2
  go_ret
  exact ⟨rfl, rfl⟩

set_option maxRecDepth 100000 in
set_option maxHeartbeats 400000 in
theorem signed3_2 (w : World) : Calls Tryd.prog 72 #[.int .i64 3, .int .u64 2] w fun e w' => e = .returned (.int .i64 (2)) ∧ w = w' := by
  go_enter Tryd.func72, Tryd.ntmps72
  go_wp2_with (first | (go_at_call 74; refine (high3_2 _).mono ?_; rintro e w1 ⟨rfl, rfl⟩) | (go_at_call 44; refine (wmask3 _).mono ?_; rintro e w1 ⟨rfl, rfl⟩))
  go_ret
  exact ⟨rfl, rfl⟩

set_option maxRecDepth 100000 in
set_option maxHeartbeats 400000 in
theorem high3_3 (w : World) : Calls Tryd.prog 74 #[.int .i64 3, .int .u64 3] w fun e w' => e = .returned (.bool false) ∧ w = w' := by
  have e0 : bits BinOp.and IntKind.u64 0 1 = 0 := by decide
  go_enter Tryd.func74, Tryd.ntmps74
  go_wp2
  go_ret
  exact ⟨rfl, rfl⟩

set_option maxRecDepth 100000 in
set_option maxHeartbeats 400000 in
theorem signed3_3 (w : World) : Calls Tryd.prog 72 #[.int .i64 3, .int .u64 3] w fun e w' => e = .returned (.int .i64 (3)) ∧ w = w' := by
  go_enter Tryd.func72, Tryd.ntmps72
  go_wp2_with (first | (go_at_call 74; refine (high3_3 _).mono ?_; rintro e w1 ⟨rfl, rfl⟩) | (go_at_call 44; refine (wmask3 _).mono ?_; rintro e w1 ⟨rfl, rfl⟩))
  go_ret
  exact ⟨rfl, rfl⟩

set_option maxRecDepth 100000 in
set_option maxHeartbeats 400000 in
theorem high3_4 (w : World) : Calls Tryd.prog 74 #[.int .i64 3, .int .u64 4] w fun e w' => e = .returned (.bool true) ∧ w = w' := by
  have e0 : bits BinOp.and IntKind.u64 1 1 = 1 := by decide
  go_enter Tryd.func74, Tryd.ntmps74
  go_wp2
  go_ret
  exact ⟨rfl, rfl⟩

set_option maxRecDepth 100000 in
set_option maxHeartbeats 400000 in
theorem signed3_4 (w : World) : Calls Tryd.prog 72 #[.int .i64 3, .int .u64 4] w fun e w' => e = .returned (.int .i64 (-4)) ∧ w = w' := by
  go_enter Tryd.func72, Tryd.ntmps72
  go_wp2_with (first | (go_at_call 74; refine (high3_4 _).mono ?_; rintro e w1 ⟨rfl, rfl⟩) | (go_at_call 44; refine (wmask3 _).mono ?_; rintro e w1 ⟨rfl, rfl⟩))
  go_ret
  exact ⟨congrArg (fun n => Ending.returned (.int .i64 n)) (show wrap64 (bits BinOp.or IntKind.u64 4 (bits BinOp.xor IntKind.u64 IntKind.u64.max 7)) = -4 by decide +kernel), rfl⟩

set_option maxRecDepth 100000 in
set_option maxHeartbeats 400000 in
theorem high3_5 (w : World) : Calls Tryd.prog 74 #[.int .i64 3, .int .u64 5] w fun e w' => e = .returned (.bool true) ∧ w = w' := by
  have e0 : bits BinOp.and IntKind.u64 1 1 = 1 := by decide
  go_enter Tryd.func74, Tryd.ntmps74
  go_wp2
  go_ret
  exact ⟨rfl, rfl⟩

set_option maxRecDepth 100000 in
set_option maxHeartbeats 400000 in
theorem signed3_5 (w : World) : Calls Tryd.prog 72 #[.int .i64 3, .int .u64 5] w fun e w' => e = .returned (.int .i64 (-3)) ∧ w = w' := by
  go_enter Tryd.func72, Tryd.ntmps72
  go_wp2_with (first | (go_at_call 74; refine (high3_5 _).mono ?_; rintro e w1 ⟨rfl, rfl⟩) | (go_at_call 44; refine (wmask3 _).mono ?_; rintro e w1 ⟨rfl, rfl⟩))
  go_ret
  exact ⟨congrArg (fun n => Ending.returned (.int .i64 n)) (show wrap64 (bits BinOp.or IntKind.u64 5 (bits BinOp.xor IntKind.u64 IntKind.u64.max 7)) = -3 by decide +kernel), rfl⟩

set_option maxRecDepth 100000 in
set_option maxHeartbeats 400000 in
theorem high3_6 (w : World) : Calls Tryd.prog 74 #[.int .i64 3, .int .u64 6] w fun e w' => e = .returned (.bool true) ∧ w = w' := by
  have e0 : bits BinOp.and IntKind.u64 1 1 = 1 := by decide
  go_enter Tryd.func74, Tryd.ntmps74
  go_wp2
  go_ret
  exact ⟨rfl, rfl⟩

set_option maxRecDepth 100000 in
set_option maxHeartbeats 400000 in
theorem signed3_6 (w : World) : Calls Tryd.prog 72 #[.int .i64 3, .int .u64 6] w fun e w' => e = .returned (.int .i64 (-2)) ∧ w = w' := by
  go_enter Tryd.func72, Tryd.ntmps72
  go_wp2_with (first | (go_at_call 74; refine (high3_6 _).mono ?_; rintro e w1 ⟨rfl, rfl⟩) | (go_at_call 44; refine (wmask3 _).mono ?_; rintro e w1 ⟨rfl, rfl⟩))
  go_ret
  exact ⟨congrArg (fun n => Ending.returned (.int .i64 n)) (show wrap64 (bits BinOp.or IntKind.u64 6 (bits BinOp.xor IntKind.u64 IntKind.u64.max 7)) = -2 by decide +kernel), rfl⟩

set_option maxRecDepth 100000 in
set_option maxHeartbeats 400000 in
theorem high3_7 (w : World) : Calls Tryd.prog 74 #[.int .i64 3, .int .u64 7] w fun e w' => e = .returned (.bool true) ∧ w = w' := by
  have e0 : bits BinOp.and IntKind.u64 1 1 = 1 := by decide
  go_enter Tryd.func74, Tryd.ntmps74
  go_wp2
  go_ret
  exact ⟨rfl, rfl⟩

set_option maxRecDepth 100000 in
set_option maxHeartbeats 400000 in
theorem signed3_7 (w : World) : Calls Tryd.prog 72 #[.int .i64 3, .int .u64 7] w fun e w' => e = .returned (.int .i64 (-1)) ∧ w = w' := by
  go_enter Tryd.func72, Tryd.ntmps72
  go_wp2_with (first | (go_at_call 74; refine (high3_7 _).mono ?_; rintro e w1 ⟨rfl, rfl⟩) | (go_at_call 44; refine (wmask3 _).mono ?_; rintro e w1 ⟨rfl, rfl⟩))
  go_ret
  exact ⟨congrArg (fun n => Ending.returned (.int .i64 n)) (show wrap64 (bits BinOp.or IntKind.u64 7 (bits BinOp.xor IntKind.u64 IntKind.u64.max 7)) = -1 by decide +kernel), rfl⟩

set_option maxRecDepth 100000 in
set_option maxHeartbeats 400000 in
theorem shl3_big (x y : Int) (w : World) (h3 : 3 ≤ y) : Calls Tryd.prog 62 #[.int .i64 3, .int .u64 x, .int .u64 y] w fun e w' => e = .returned (.int .u64 0) ∧ w = w' := by
  have d : decide (3 ≤ y) = true := by simpa using h3
  have d2 : ¬ y < 3 := by omega
  go_enter Tryd.func62, Tryd.ntmps62
  go_wp2
  go_ret
  exact ⟨rfl, rfl⟩

set_option maxRecDepth 100000 in
set_option maxHeartbeats 400000 in
theorem shl3_0_0 (w : World) : Calls Tryd.prog 62 #[.int .i64 3, .int .u64 0, .int .u64 0] w fun e w' => e = .returned (.int .u64 0) ∧ w = w' := by
  go_enter Tryd.func62, Tryd.ntmps62
  go_wp2
  go_ret
  exact ⟨rfl, rfl⟩

set_option maxRecDepth 100000 in
set_option maxHeartbeats 400000 in
theorem shl3_1_0 (w : World) : Calls Tryd.prog 62 #[.int .i64 3, .int .u64 1, .int .u64 0] w fun e w' => e = .returned (.int .u64 1) ∧ w = w' := by
  go_enter Tryd.func62, Tryd.ntmps62
  go_wp2
  go_ret
  exact ⟨rfl, rfl⟩

set_option maxRecDepth 100000 in
set_option maxHeartbeats 400000 in
theorem shl3_2_0 (w : World) : Calls Tryd.prog 62 #[.int .i64 3, .int .u64 2, .int .u64 0] w fun e w' => e = .returned (.int .u64 2) ∧ w = w' := by
  go_enter Tryd.func62, Tryd.ntmps62
  go_wp2
  go_ret
  exact ⟨rfl, rfl⟩

set_option maxRecDepth 100000 in
set_option maxHeartbeats 400000 in
theorem shl3_3_0 (w : World) : Calls Tryd.prog 62 #[.int .i64 3, .int .u64 3, .int .u64 0] w fun e w' => e = .returned (.int .u64 3) ∧ w = w' := by
  go_enter Tryd.func62, Tryd.ntmps62
  go_wp2
  go_ret
  exact ⟨rfl, rfl⟩

set_option maxRecDepth 100000 in
set_option maxHeartbeats 400000 in
theorem shl3_4_0 (w : World) : Calls Tryd.prog 62 #[.int .i64 3, .int .u64 4, .int .u64 0] w fun e w' => e = .returned (.int .u64 4) ∧ w = w' := by
  go_enter Tryd.func62, Tryd.ntmps62
  go_wp2
  go_ret
  exact ⟨rfl, rfl⟩

set_option maxRecDepth 100000 in
set_option maxHeartbeats 400000 in
theorem shl3_5_0 (w : World) : Calls Tryd.prog 62 #[.int .i64 3, .int .u64 5, .int .u64 0] w fun e w' => e = .returned (.int .u64 5) ∧ w = w' := by
  go_enter Tryd.func62, Tryd.ntmps62
  go_wp2
  go_ret
  exact ⟨rfl, rfl⟩

set_option maxRecDepth 100000 in
set_option maxHeartbeats 400000 in
theorem shl3_6_0 (w : World) : Calls Tryd.prog 62 #[.int .i64 3, .int .u64 6, .int .u64 0] w fun e w' => e = .returned (.int .u64 6) ∧ w = w' := by
  go_enter Tryd.func62, Tryd.ntmps62
  go_wp2
  go_ret
  exact ⟨rfl, rfl⟩

set_option maxRecDepth 100000 in
set_option maxHeartbeats 400000 in
theorem shl3_7_0 (w : World) : Calls Tryd.prog 62 #[.int .i64 3, .int .u64 7, .int .u64 0] w fun e w' => e = .returned (.int .u64 7) ∧ w = w' := by
  go_enter Tryd.func62, Tryd.ntmps62
  go_wp2
  go_ret
  exact ⟨rfl, rfl⟩

set_option maxRecDepth 100000 in
set_option maxHeartbeats 400000 in
theorem shl3_0_1 (w : World) : Calls Tryd.prog 62 #[.int .i64 3, .int .u64 0, .int .u64 1] w fun e w' => e = .returned (.int .u64 0) ∧ w = w' := by
  go_enter Tryd.func62, Tryd.ntmps62
  go_wp2
  go_ret
  exact ⟨rfl, rfl⟩

set_option maxRecDepth 100000 in
set_option maxHeartbeats 400000 in
theorem shl3_1_1 (w : World) : Calls Tryd.prog 62 #[.int .i64 3, .int .u64 1, .int .u64 1] w fun e w' => e = .returned (.int .u64 2) ∧ w = w' := by
  go_enter Tryd.func62, Tryd.ntmps62
  go_wp2
  go_ret
  exact ⟨rfl, rfl⟩

set_option maxRecDepth 100000 in
set_option maxHeartbeats 400000 in
theorem shl3_2_1 (w : World) : Calls Tryd.prog 62 #[.int .i64 3, .int .u64 2, .int .u64 1] w fun e w' => e = .returned (.int .u64 4) ∧ w = w' := by
  go_enter Tryd.func62, Tryd.ntmps62
  go_wp2
  go_ret
  exact ⟨rfl, rfl⟩

set_option maxRecDepth 100000 in
set_option maxHeartbeats 400000 in
theorem shl3_3_1 (w : World) : Calls Tryd.prog 62 #[.int .i64 3, .int .u64 3, .int .u64 1] w fun e w' => e = .returned (.int .u64 6) ∧ w = w' := by
  go_enter Tryd.func62, Tryd.ntmps62
  go_wp2
  go_ret
  exact ⟨rfl, rfl⟩

set_option maxRecDepth 100000 in
set_option maxHeartbeats 400000 in
theorem shl3_4_1 (w : World) : Calls Tryd.prog 62 #[.int .i64 3, .int .u64 4, .int .u64 1] w fun e w' => e = .returned (.int .u64 8) ∧ w = w' := by
  go_enter Tryd.func62, Tryd.ntmps62
  go_wp2
  go_ret
  exact ⟨rfl, rfl⟩

set_option maxRecDepth 100000 in
set_option maxHeartbeats 400000 in
theorem shl3_5_1 (w : World) : Calls Tryd.prog 62 #[.int .i64 3, .int .u64 5, .int .u64 1] w fun e w' => e = .returned (.int .u64 10) ∧ w = w' := by
  go_enter Tryd.func62, Tryd.ntmps62
  go_wp2
  go_ret
  exact ⟨rfl, rfl⟩

set_option maxRecDepth 100000 in
set_option maxHeartbeats 400000 in
theorem shl3_6_1 (w : World) : Calls Tryd.prog 62 #[.int .i64 3, .int .u64 6, .int .u64 1] w fun e w' => e = .returned (.int .u64 12) ∧ w = w' := by
  go_enter Tryd.func62, Tryd.ntmps62
  go_wp2
  go_ret
  exact ⟨rfl, rfl⟩

set_option maxRecDepth 100000 in
set_option maxHeartbeats 400000 in
theorem shl3_7_1 (w : World) : Calls Tryd.prog 62 #[.int .i64 3, .int .u64 7, .int .u64 1] w fun e w' => e = .returned (.int .u64 14) ∧ w = w' := by
  go_enter Tryd.func62, Tryd.ntmps62
  go_wp2
  go_ret
  exact ⟨rfl, rfl⟩

set_option maxRecDepth 100000 in
set_option maxHeartbeats 400000 in
theorem shl3_0_2 (w : World) : Calls Tryd.prog 62 #[.int .i64 3, .int .u64 0, .int .u64 2] w fun e w' => e = .returned (.int .u64 0) ∧ w = w' := by
  go_enter Tryd.func62, Tryd.ntmps62
  go_wp2
  go_ret
  exact ⟨rfl, rfl⟩

set_option maxRecDepth 100000 in
set_option maxHeartbeats 400000 in
theorem shl3_1_2 (w : World) : Calls Tryd.prog 62 #[.int .i64 3, .int .u64 1, .int .u64 2] w fun e w' => e = .returned (.int .u64 4) ∧ w = w' := by
  go_enter Tryd.func62, Tryd.ntmps62
  go_wp2
  go_ret
  exact ⟨rfl, rfl⟩

set_option maxRecDepth 100000 in
set_option maxHeartbeats 400000 in
theorem shl3_2_2 (w : World) : Calls Tryd.prog 62 #[.int .i64 3, .int .u64 2, .int .u64 2] w fun e w' => e = .returned (.int .u64 8) ∧ w = w' := by
  go_enter Tryd.func62, Tryd.ntmps62
  go_wp2
  go_ret
  exact ⟨rfl, rfl⟩

set_option maxRecDepth 100000 in
set_option maxHeartbeats 400000 in
theorem shl3_3_2 (w : World) : Calls Tryd.prog 62 #[.int .i64 3, .int .u64 3, .int .u64 2] w fun e w' => e = .returned (.int .u64 12) ∧ w = w' := by
  go_enter Tryd.func62, Tryd.ntmps62
  go_wp2
  go_ret
  exact ⟨rfl, rfl⟩

set_option maxRecDepth 100000 in
set_option maxHeartbeats 400000 in
theorem shl3_4_2 (w : World) : Calls Tryd.prog 62 #[.int .i64 3, .int .u64 4, .int .u64 2] w fun e w' => e = .returned (.int .u64 16) ∧ w = w' := by
  go_enter Tryd.func62, Tryd.ntmps62
  go_wp2
  go_ret
  exact ⟨rfl, rfl⟩

set_option maxRecDepth 100000 in
set_option maxHeartbeats 400000 in
theorem shl3_5_2 (w : World) : Calls Tryd.prog 62 #[.int .i64 3, .int .u64 5, .int .u64 2] w fun e w' => e = .returned (.int .u64 20) ∧ w = w' := by
  go_enter Tryd.func62, Tryd.ntmps62
  go_wp2
  go_ret
  exact ⟨rfl, rfl⟩

set_option maxRecDepth 100000 in
set_option maxHeartbeats 400000 in
theorem shl3_6_2 (w : World) : Calls Tryd.prog 62 #[.int .i64 3, .int .u64 6, .int .u64 2] w fun e w' => e = .returned (.int .u64 24) ∧ w = w' := by
  go_enter Tryd.func62, Tryd.ntmps62
  go_wp2
  go_ret
  exact ⟨rfl, rfl⟩

set_option maxRecDepth 100000 in
set_option maxHeartbeats 400000 in
theorem shl3_7_2 (w : World) : Calls Tryd.prog 62 #[.int .i64 3, .int .u64 7, .int .u64 2] w fun e w' => e = .returned (.int .u64 28) ∧ w = w' := by
  go_enter Tryd.func62, Tryd.ntmps62
  go_wp2
  go_ret
  exact ⟨rfl, rfl⟩

set_option maxRecDepth 100000 in
set_option maxHeartbeats 400000 in
theorem shr3_big (x y : Int) (w : World) (h3 : 3 ≤ y) : Calls Tryd.prog 63 #[.int .i64 3, .int .u64 x, .int .u64 y] w fun e w' => e = .returned (.int .u64 0) ∧ w = w' := by
  have d : decide (3 ≤ y) = true := by simpa using h3
  have d2 : ¬ y < 3 := by omega
  go_enter Tryd.func63, Tryd.ntmps63
  go_wp2
  go_ret
  exact ⟨rfl, rfl⟩

set_option maxRecDepth 100000 in
set_option maxHeartbeats 400000 in
theorem shr3_0_0 (w : World) : Calls Tryd.prog 63 #[.int .i64 3, .int .u64 0, .int .u64 0] w fun e w' => e = .returned (.int .u64 0) ∧ w = w' := by
  go_enter Tryd.func63, Tryd.ntmps63
  go_wp2
  go_ret
  exact ⟨rfl, rfl⟩

set_option maxRecDepth 100000 in
set_option maxHeartbeats 400000 in
theorem shr3_1_0 (w : World) : Calls Tryd.prog 63 #[.int .i64 3, .int .u64 1, .int .u64 0] w fun e w' => e = .returned (.int .u64 1) ∧ w = w' := by
  go_enter Tryd.func63, Tryd.ntmps63
  go_wp2
  go_ret
  exact ⟨rfl, rfl⟩

set_option maxRecDepth 100000 in
set_option maxHeartbeats 400000 in
theorem shr3_2_0 (w : World) : Calls Tryd.prog 63 #[.int .i64 3, .int .u64 2, .int .u64 0] w fun e w' => e = .returned (.int .u64 2) ∧ w = w' := by
  go_enter Tryd.func63, Tryd.ntmps63
  go_wp2
  go_ret
  exact ⟨rfl, rfl⟩

set_option maxRecDepth 100000 in
set_option maxHeartbeats 400000 in
theorem shr3_3_0 (w : World) : Calls Tryd.prog 63 #[.int .i64 3, .int .u64 3, .int .u64 0] w fun e w' => e = .returned (.int .u64 3) ∧ w = w' := by
  go_enter Tryd.func63, Tryd.ntmps63
  go_wp2
  go_ret
  exact ⟨rfl, rfl⟩

set_option maxRecDepth 100000 in
set_option maxHeartbeats 400000 in
theorem shr3_4_0 (w : World) : Calls Tryd.prog 63 #[.int .i64 3, .int .u64 4, .int .u64 0] w fun e w' => e = .returned (.int .u64 4) ∧ w = w' := by
  go_enter Tryd.func63, Tryd.ntmps63
  go_wp2
  go_ret
  exact ⟨rfl, rfl⟩

set_option maxRecDepth 100000 in
set_option maxHeartbeats 400000 in
theorem shr3_5_0 (w : World) : Calls Tryd.prog 63 #[.int .i64 3, .int .u64 5, .int .u64 0] w fun e w' => e = .returned (.int .u64 5) ∧ w = w' := by
  go_enter Tryd.func63, Tryd.ntmps63
  go_wp2
  go_ret
  exact ⟨rfl, rfl⟩

set_option maxRecDepth 100000 in
set_option maxHeartbeats 400000 in
theorem shr3_6_0 (w : World) : Calls Tryd.prog 63 #[.int .i64 3, .int .u64 6, .int .u64 0] w fun e w' => e = .returned (.int .u64 6) ∧ w = w' := by
  go_enter Tryd.func63, Tryd.ntmps63
  go_wp2
  go_ret
  exact ⟨rfl, rfl⟩

set_option maxRecDepth 100000 in
set_option maxHeartbeats 400000 in
theorem shr3_7_0 (w : World) : Calls Tryd.prog 63 #[.int .i64 3, .int .u64 7, .int .u64 0] w fun e w' => e = .returned (.int .u64 7) ∧ w = w' := by
  go_enter Tryd.func63, Tryd.ntmps63
  go_wp2
  go_ret
  exact ⟨rfl, rfl⟩

set_option maxRecDepth 100000 in
set_option maxHeartbeats 400000 in
theorem shr3_0_1 (w : World) : Calls Tryd.prog 63 #[.int .i64 3, .int .u64 0, .int .u64 1] w fun e w' => e = .returned (.int .u64 0) ∧ w = w' := by
  go_enter Tryd.func63, Tryd.ntmps63
  go_wp2
  go_ret
  exact ⟨rfl, rfl⟩

set_option maxRecDepth 100000 in
set_option maxHeartbeats 400000 in
theorem shr3_1_1 (w : World) : Calls Tryd.prog 63 #[.int .i64 3, .int .u64 1, .int .u64 1] w fun e w' => e = .returned (.int .u64 0) ∧ w = w' := by
  go_enter Tryd.func63, Tryd.ntmps63
  go_wp2
  go_ret
  exact ⟨rfl, rfl⟩

set_option maxRecDepth 100000 in
set_option maxHeartbeats 400000 in
theorem shr3_2_1 (w : World) : Calls Tryd.prog 63 #[.int .i64 3, .int .u64 2, .int .u64 1] w fun e w' => e = .returned (.int .u64 1) ∧ w = w' := by
  go_enter Tryd.func63, Tryd.ntmps63
  go_wp2
  go_ret
  exact ⟨rfl, rfl⟩

set_option maxRecDepth 100000 in
set_option maxHeartbeats 400000 in
theorem shr3_3_1 (w : World) : Calls Tryd.prog 63 #[.int .i64 3, .int .u64 3, .int .u64 1] w fun e w' => e = .returned (.int .u64 1) ∧ w = w' := by
  go_enter Tryd.func63, Tryd.ntmps63
  go_wp2
  go_ret
  exact ⟨rfl, rfl⟩

set_option maxRecDepth 100000 in
set_option maxHeartbeats 400000 in
theorem shr3_4_1 (w : World) : Calls Tryd.prog 63 #[.int .i64 3, .int .u64 4, .int .u64 1] w fun e w' => e = .returned (.int .u64 2) ∧ w = w' := by
  go_enter Tryd.func63, Tryd.ntmps63
  go_wp2
  go_ret
  exact ⟨rfl, rfl⟩

set_option maxRecDepth 100000 in
set_option maxHeartbeats 400000 in
theorem shr3_5_1 (w : World) : Calls Tryd.prog 63 #[.int .i64 3, .int .u64 5, .int .u64 1] w fun e w' => e = .returned (.int .u64 2) ∧ w = w' := by
  go_enter Tryd.func63, Tryd.ntmps63
  go_wp2
  go_ret
  exact ⟨rfl, rfl⟩

set_option maxRecDepth 100000 in
set_option maxHeartbeats 400000 in
theorem shr3_6_1 (w : World) : Calls Tryd.prog 63 #[.int .i64 3, .int .u64 6, .int .u64 1] w fun e w' => e = .returned (.int .u64 3) ∧ w = w' := by
  go_enter Tryd.func63, Tryd.ntmps63
  go_wp2
  go_ret
  exact ⟨rfl, rfl⟩

set_option maxRecDepth 100000 in
set_option maxHeartbeats 400000 in
theorem shr3_7_1 (w : World) : Calls Tryd.prog 63 #[.int .i64 3, .int .u64 7, .int .u64 1] w fun e w' => e = .returned (.int .u64 3) ∧ w = w' := by
  go_enter Tryd.func63, Tryd.ntmps63
  go_wp2
  go_ret
  exact ⟨rfl, rfl⟩

set_option maxRecDepth 100000 in
set_option maxHeartbeats 400000 in
theorem shr3_0_2 (w : World) : Calls Tryd.prog 63 #[.int .i64 3, .int .u64 0, .int .u64 2] w fun e w' => e = .returned (.int .u64 0) ∧ w = w' := by
  go_enter Tryd.func63, Tryd.ntmps63
  go_wp2
  go_ret
  exact ⟨rfl, rfl⟩

set_option maxRecDepth 100000 in
set_option maxHeartbeats 400000 in
theorem shr3_1_2 (w : World) : Calls Tryd.prog 63 #[.int .i64 3, .int .u64 1, .int .u64 2] w fun e w' => e = .returned (.int .u64 0) ∧ w = w' := by
  go_enter Tryd.func63, Tryd.ntmps63
  go_wp2
  go_ret
  exact ⟨rfl, rfl⟩

set_option maxRecDepth 100000 in
set_option maxHeartbeats 400000 in
theorem shr3_2_2 (w : World) : Calls Tryd.prog 63 #[.int .i64 3, .int .u64 2, .int .u64 2] w fun e w' => e = .returned (.int .u64 0) ∧ w = w' := by
  go_enter Tryd.func63, Tryd.ntmps63
  go_wp2
  go_ret
  exact ⟨rfl, rfl⟩

set_option maxRecDepth 100000 in
set_option maxHeartbeats 400000 in
theorem shr3_3_2 (w : World) : Calls Tryd.prog 63 #[.int .i64 3, .int .u64 3, .int .u64 2] w fun e w' => e = .returned (.int .u64 0) ∧ w = w' := by
  go_enter Tryd.func63, Tryd.ntmps63
  go_wp2
  go_ret
  exact ⟨rfl, rfl⟩

set_option maxRecDepth 100000 in
set_option maxHeartbeats 400000 in
theorem shr3_4_2 (w : World) : Calls Tryd.prog 63 #[.int .i64 3, .int .u64 4, .int .u64 2] w fun e w' => e = .returned (.int .u64 1) ∧ w = w' := by
  go_enter Tryd.func63, Tryd.ntmps63
  go_wp2
  go_ret
  exact ⟨rfl, rfl⟩

set_option maxRecDepth 100000 in
set_option maxHeartbeats 400000 in
theorem shr3_5_2 (w : World) : Calls Tryd.prog 63 #[.int .i64 3, .int .u64 5, .int .u64 2] w fun e w' => e = .returned (.int .u64 1) ∧ w = w' := by
  go_enter Tryd.func63, Tryd.ntmps63
  go_wp2
  go_ret
  exact ⟨rfl, rfl⟩

set_option maxRecDepth 100000 in
set_option maxHeartbeats 400000 in
theorem shr3_6_2 (w : World) : Calls Tryd.prog 63 #[.int .i64 3, .int .u64 6, .int .u64 2] w fun e w' => e = .returned (.int .u64 1) ∧ w = w' := by
  go_enter Tryd.func63, Tryd.ntmps63
  go_wp2
  go_ret
  exact ⟨rfl, rfl⟩

set_option maxRecDepth 100000 in
set_option maxHeartbeats 400000 in
theorem shr3_7_2 (w : World) : Calls Tryd.prog 63 #[.int .i64 3, .int .u64 7, .int .u64 2] w fun e w' => e = .returned (.int .u64 1) ∧ w = w' := by
  go_enter Tryd.func63, Tryd.ntmps63
  go_wp2
  go_ret
  exact ⟨rfl, rfl⟩

set_option maxRecDepth 100000 in
set_option maxHeartbeats 400000 in
theorem sar3_0_0 (w : World) : Calls Tryd.prog 64 #[.int .i64 3, .int .u64 0, .int .u64 0] w fun e w' => e = .returned (.int .u64 0) ∧ w = w' := by
  go_enter Tryd.func64, Tryd.ntmps64
  go_wp2_with ((go_at_call 72; refine (signed3_0 _).mono ?_; rintro e w1 ⟨rfl, rfl⟩))
  go_ret
  exact ⟨rfl, rfl⟩

set_option maxRecDepth 100000 in
set_option maxHeartbeats 400000 in
theorem sar3_0_1 (w : World) : Calls Tryd.prog 64 #[.int .i64 3, .int .u64 0, .int .u64 1] w fun e w' => e = .returned (.int .u64 0) ∧ w = w' := by
  go_enter Tryd.func64, Tryd.ntmps64
  go_wp2_with ((go_at_call 72; refine (signed3_0 _).mono ?_; rintro e w1 ⟨rfl, rfl⟩))
  go_ret
  exact ⟨rfl, rfl⟩

set_option maxRecDepth 100000 in
set_option maxHeartbeats 400000 in
theorem sar3_0_2 (w : World) : Calls Tryd.prog 64 #[.int .i64 3, .int .u64 0, .int .u64 2] w fun e w' => e = .returned (.int .u64 0) ∧ w = w' := by
  go_enter Tryd.func64, Tryd.ntmps64
  go_wp2_with ((go_at_call 72; refine (signed3_0 _).mono ?_; rintro e w1 ⟨rfl, rfl⟩))
  go_ret
  exact ⟨rfl, rfl⟩

set_option maxRecDepth 100000 in
set_option maxHeartbeats 400000 in
theorem sar3_0_3 (w : World) : Calls Tryd.prog 64 #[.int .i64 3, .int .u64 0, .int .u64 3] w fun e w' => e = .returned (.int .u64 0) ∧ w = w' := by
  go_enter Tryd.func64, Tryd.ntmps64
  go_wp2_with ((go_at_call 72; refine (signed3_0 _).mono ?_; rintro e w1 ⟨rfl, rfl⟩))
  go_ret
  exact ⟨rfl, rfl⟩

set_option maxRecDepth 100000 in
set_option maxHeartbeats 400000 in
theorem sar3_0_4 (w : World) : Calls Tryd.prog 64 #[.int .i64 3, .int .u64 0, .int .u64 4] w fun e w' => e = .returned (.int .u64 0) ∧ w = w' := by
  go_enter Tryd.func64, Tryd.ntmps64
  go_wp2_with ((go_at_call 72; refine (signed3_0 _).mono ?_; rintro e w1 ⟨rfl, rfl⟩))
  go_ret
  exact ⟨rfl, rfl⟩

set_option maxRecDepth 100000 in
set_option maxHeartbeats 400000 in
theorem sar3_0_5 (w : World) : Calls Tryd.prog 64 #[.int .i64 3, .int .u64 0, .int .u64 5] w fun e w' => e = .returned (.int .u64 0) ∧ w = w' := by
  go_enter Tryd.func64, Tryd.ntmps64
  go_wp2_with ((go_at_call 72; refine (signed3_0 _).mono ?_; rintro e w1 ⟨rfl, rfl⟩))
  go_ret
  exact ⟨rfl, rfl⟩

set_option maxRecDepth 100000 in
set_option maxHeartbeats 400000 in
theorem sar3_0_6 (w : World) : Calls Tryd.prog 64 #[.int .i64 3, .int .u64 0, .int .u64 6] w fun e w' => e = .returned (.int .u64 0) ∧ w = w' := by
  go_enter Tryd.func64, Tryd.ntmps64
  go_wp2_with ((go_at_call 72; refine (signed3_0 _).mono ?_; rintro e w1 ⟨rfl, rfl⟩))
  go_ret
  exact ⟨rfl, rfl⟩

set_option maxRecDepth 100000 in
set_option maxHeartbeats 400000 in
theorem sar3_0_7 (w : World) : Calls Tryd.prog 64 #[.int .i64 3, .int .u64 0, .int .u64 7] w fun e w' => e = .returned (.int .u64 0) ∧ w = w' := by
  go_enter Tryd.func64, Tryd.ntmps64
  go_wp2_with ((go_at_call 72; refine (signed3_0 _).mono ?_; rintro e w1 ⟨rfl, rfl⟩))
  go_ret
  exact ⟨rfl, rfl⟩

set_option maxRecDepth 100000 in
set_option maxHeartbeats 400000 in
theorem sar3_1_0 (w : World) : Calls Tryd.prog 64 #[.int .i64 3, .int .u64 1, .int .u64 0] w fun e w' => e = .returned (.int .u64 1) ∧ w = w' := by
  go_enter Tryd.func64, Tryd.ntmps64
  go_wp2_with ((go_at_call 72; refine (signed3_1 _).mono ?_; rintro e w1 ⟨rfl, rfl⟩))
  go_ret
  exact ⟨rfl, rfl⟩

set_option maxRecDepth 100000 in
set_option maxHeartbeats 400000 in
theorem sar3_1_1 (w : World) : Calls Tryd.prog 64 #[.int .i64 3, .int .u64 1, .int .u64 1] w fun e w' => e = .returned (.int .u64 0) ∧ w = w' := by
  go_enter Tryd.func64, Tryd.ntmps64
  go_wp2_with ((go_at_call 72; refine (signed3_1 _).mono ?_; rintro e w1 ⟨rfl, rfl⟩))
  go_ret
  exact ⟨rfl, rfl⟩

set_option maxRecDepth 100000 in
set_option maxHeartbeats 400000 in
theorem sar3_1_2 (w : World) : Calls Tryd.prog 64 #[.int .i64 3, .int .u64 1, .int .u64 2] w fun e w' => e = .returned (.int .u64 0) ∧ w = w' := by
  go_enter Tryd.func64, Tryd.ntmps64
  go_wp2_with ((go_at_call 72; refine (signed3_1 _).mono ?_; rintro e w1 ⟨rfl, rfl⟩))
  go_ret
  exact ⟨rfl, rfl⟩

set_option maxRecDepth 100000 in
set_option maxHeartbeats 400000 in
theorem sar3_1_3 (w : World) : Calls Tryd.prog 64 #[.int .i64 3, .int .u64 1, .int .u64 3] w fun e w' => e = .returned (.int .u64 0) ∧ w = w' := by
  go_enter Tryd.func64, Tryd.ntmps64
  go_wp2_with ((go_at_call 72; refine (signed3_1 _).mono ?_; rintro e w1 ⟨rfl, rfl⟩))
  go_ret
  exact ⟨rfl, rfl⟩

set_option maxRecDepth 100000 in
set_option maxHeartbeats 400000 in
theorem sar3_1_4 (w : World) : Calls Tryd.prog 64 #[.int .i64 3, .int .u64 1, .int .u64 4] w fun e w' => e = .returned (.int .u64 0) ∧ w = w' := by
  go_enter Tryd.func64, Tryd.ntmps64
  go_wp2_with ((go_at_call 72; refine (signed3_1 _).mono ?_; rintro e w1 ⟨rfl, rfl⟩))
  go_ret
  exact ⟨rfl, rfl⟩

set_option maxRecDepth 100000 in
set_option maxHeartbeats 400000 in
theorem sar3_1_5 (w : World) : Calls Tryd.prog 64 #[.int .i64 3, .int .u64 1, .int .u64 5] w fun e w' => e = .returned (.int .u64 0) ∧ w = w' := by
  go_enter Tryd.func64, Tryd.ntmps64
  go_wp2_with ((go_at_call 72; refine (signed3_1 _).mono ?_; rintro e w1 ⟨rfl, rfl⟩))
  go_ret
  exact ⟨rfl, rfl⟩

set_option maxRecDepth 100000 in
set_option maxHeartbeats 400000 in
theorem sar3_1_6 (w : World) : Calls Tryd.prog 64 #[.int .i64 3, .int .u64 1, .int .u64 6] w fun e w' => e = .returned (.int .u64 0) ∧ w = w' := by
  go_enter Tryd.func64, Tryd.ntmps64
  go_wp2_with ((go_at_call 72; refine (signed3_1 _).mono ?_; rintro e w1 ⟨rfl, rfl⟩))
  go_ret
  exact ⟨rfl, rfl⟩

set_option maxRecDepth 100000 in
set_option maxHeartbeats 400000 in
theorem sar3_1_7 (w : World) : Calls Tryd.prog 64 #[.int .i64 3, .int .u64 1, .int .u64 7] w fun e w' => e = .returned (.int .u64 0) ∧ w = w' := by
  go_enter Tryd.func64, Tryd.ntmps64
  go_wp2_with ((go_at_call 72; refine (signed3_1 _).mono ?_; rintro e w1 ⟨rfl, rfl⟩))
  go_ret
  exact ⟨rfl, rfl⟩

set_option maxRecDepth 100000 in
set_option maxHeartbeats 400000 in
theorem sar3_2_0 (w : World) : Calls Tryd.prog 64 #[.int .i64 3, .int .u64 2, .int .u64 0] w fun e w' => e = .returned (.int .u64 2) ∧ w = w' := by
  go_enter Tryd.func64, Tryd.ntmps64
  go_wp2_with ((go_at_call 72; refine (signed3_2 _).mono ?_; rintro e w1 ⟨rfl, rfl⟩))
  go_ret
  exact ⟨rfl, rfl⟩

set_option maxRecDepth 100000 in
set_option maxHeartbeats 400000 in
theorem sar3_2_1 (w : World) : Calls Tryd.prog 64 #[.int .i64 3, .int .u64 2, .int .u64 1] w fun e w' => e = .returned (.int .u64 1) ∧ w = w' := by
  go_enter Tryd.func64, Tryd.ntmps64
  go_wp2_with ((go_at_call 72; refine (signed3_2 _).mono ?_; rintro e w1 ⟨rfl, rfl⟩))
  go_ret
  exact ⟨rfl, rfl⟩

set_option maxRecDepth 100000 in
set_option maxHeartbeats 400000 in
theorem sar3_2_2 (w : World) : Calls Tryd.prog 64 #[.int .i64 3, .int .u64 2, .int .u64 2] w fun e w' => e = .returned (.int .u64 0) ∧ w = w' := by
  go_enter Tryd.func64, Tryd.ntmps64
  go_wp2_with ((go_at_call 72; refine (signed3_2 _).mono ?_; rintro e w1 ⟨rfl, rfl⟩))
  go_ret
  exact ⟨rfl, rfl⟩

set_option maxRecDepth 100000 in
set_option maxHeartbeats 400000 in
theorem sar3_2_3 (w : World) : Calls Tryd.prog 64 #[.int .i64 3, .int .u64 2, .int .u64 3] w fun e w' => e = .returned (.int .u64 0) ∧ w = w' := by
  go_enter Tryd.func64, Tryd.ntmps64
  go_wp2_with ((go_at_call 72; refine (signed3_2 _).mono ?_; rintro e w1 ⟨rfl, rfl⟩))
  go_ret
  exact ⟨rfl, rfl⟩

set_option maxRecDepth 100000 in
set_option maxHeartbeats 400000 in
theorem sar3_2_4 (w : World) : Calls Tryd.prog 64 #[.int .i64 3, .int .u64 2, .int .u64 4] w fun e w' => e = .returned (.int .u64 0) ∧ w = w' := by
  go_enter Tryd.func64, Tryd.ntmps64
  go_wp2_with ((go_at_call 72; refine (signed3_2 _).mono ?_; rintro e w1 ⟨rfl, rfl⟩))
  go_ret
  exact ⟨rfl, rfl⟩

set_option maxRecDepth 100000 in
set_option maxHeartbeats 400000 in
theorem sar3_2_5 (w : World) : Calls Tryd.prog 64 #[.int .i64 3, .int .u64 2, .int .u64 5] w fun e w' => e = .returned (.int .u64 0) ∧ w = w' := by
  go_enter Tryd.func64, Tryd.ntmps64
  go_wp2_with ((go_at_call 72; refine (signed3_2 _).mono ?_; rintro e w1 ⟨rfl, rfl⟩))
  go_ret
  exact ⟨rfl, rfl⟩

set_option maxRecDepth 100000 in
set_option maxHeartbeats 400000 in
theorem sar3_2_6 (w : World) : Calls Tryd.prog 64 #[.int .i64 3, .int .u64 2, .int .u64 6] w fun e w' => e = .returned (.int .u64 0) ∧ w = w' := by
  go_enter Tryd.func64, Tryd.ntmps64
  go_wp2_with ((go_at_call 72; refine (signed3_2 _).mono ?_; rintro e w1 ⟨rfl, rfl⟩))
  go_ret
  exact ⟨rfl, rfl⟩

set_option maxRecDepth 100000 in
set_option maxHeartbeats 400000 in
theorem sar3_2_7 (w : World) : Calls Tryd.prog 64 #[.int .i64 3, .int .u64 2, .int .u64 7] w fun e w' => e = .returned (.int .u64 0) ∧ w = w' := by
  go_enter Tryd.func64, Tryd.ntmps64
  go_wp2_with ((go_at_call 72; refine (signed3_2 _).mono ?_; rintro e w1 ⟨rfl, rfl⟩))
  go_ret
  exact ⟨rfl, rfl⟩

set_option maxRecDepth 100000 in
set_option maxHeartbeats 400000 in
theorem sar3_3_0 (w : World) : Calls Tryd.prog 64 #[.int .i64 3, .int .u64 3, .int .u64 0] w fun e w' => e = .returned (.int .u64 3) ∧ w = w' := by
  go_enter Tryd.func64, Tryd.ntmps64
  go_wp2_with ((go_at_call 72; refine (signed3_3 _).mono ?_; rintro e w1 ⟨rfl, rfl⟩))
  go_ret
  exact ⟨rfl, rfl⟩

set_option maxRecDepth 100000 in
set_option maxHeartbeats 400000 in
theorem sar3_3_1 (w : World) : Calls Tryd.prog 64 #[.int .i64 3, .int .u64 3, .int .u64 1] w fun e w' => e = .returned (.int .u64 1) ∧ w = w' := by
  go_enter Tryd.func64, Tryd.ntmps64
  go_wp2_with ((go_at_call 72; refine (signed3_3 _).mono ?_; rintro e w1 ⟨rfl, rfl⟩))
  go_ret
  exact ⟨rfl, rfl⟩

set_option maxRecDepth 100000 in
set_option maxHeartbeats 400000 in
theorem sar3_3_2 (w : World) : Calls Tryd.prog 64 #[.int .i64 3, .int .u64 3, .int .u64 2] w fun e w' => e = .returned (.int .u64 0) ∧ w = w' := by
  go_enter Tryd.func64, Tryd.ntmps64
  go_wp2_with ((go_at_call 72; refine (signed3_3 _).mono ?_; rintro e w1 ⟨rfl, rfl⟩))
  go_ret
  exact ⟨rfl, rfl⟩

set_option maxRecDepth 100000 in
set_option maxHeartbeats 400000 in
theorem sar3_3_3 (w : World) : Calls Tryd.prog 64 #[.int .i64 3, .int .u64 3, .int .u64 3] w fun e w' => e = .returned (.int .u64 0) ∧ w = w' := by
  go_enter Tryd.func64, Tryd.ntmps64
  go_wp2_with ((go_at_call 72; refine (signed3_3 _).mono ?_; rintro e w1 ⟨rfl, rfl⟩))
  go_ret
  exact ⟨rfl, rfl⟩

set_option maxRecDepth 100000 in
set_option maxHeartbeats 400000 in
theorem sar3_3_4 (w : World) : Calls Tryd.prog 64 #[.int .i64 3, .int .u64 3, .int .u64 4] w fun e w' => e = .returned (.int .u64 0) ∧ w = w' := by
  go_enter Tryd.func64, Tryd.ntmps64
  go_wp2_with ((go_at_call 72; refine (signed3_3 _).mono ?_; rintro e w1 ⟨rfl, rfl⟩))
  go_ret
  exact ⟨rfl, rfl⟩

set_option maxRecDepth 100000 in
set_option maxHeartbeats 400000 in
theorem sar3_3_5 (w : World) : Calls Tryd.prog 64 #[.int .i64 3, .int .u64 3, .int .u64 5] w fun e w' => e = .returned (.int .u64 0) ∧ w = w' := by
  go_enter Tryd.func64, Tryd.ntmps64
  go_wp2_with ((go_at_call 72; refine (signed3_3 _).mono ?_; rintro e w1 ⟨rfl, rfl⟩))
  go_ret
  exact ⟨rfl, rfl⟩

set_option maxRecDepth 100000 in
set_option maxHeartbeats 400000 in
theorem sar3_3_6 (w : World) : Calls Tryd.prog 64 #[.int .i64 3, .int .u64 3, .int .u64 6] w fun e w' => e = .returned (.int .u64 0) ∧ w = w' := by
  go_enter Tryd.func64, Tryd.ntmps64
  go_wp2_with ((go_at_call 72; refine (signed3_3 _).mono ?_; rintro e w1 ⟨rfl, rfl⟩))
  go_ret
  exact ⟨rfl, rfl⟩

set_option maxRecDepth 100000 in
set_option maxHeartbeats 400000 in
theorem sar3_3_7 (w : World) : Calls Tryd.prog 64 #[.int .i64 3, .int .u64 3, .int .u64 7] w fun e w' => e = .returned (.int .u64 0) ∧ w = w' := by
  go_enter Tryd.func64, Tryd.ntmps64
  go_wp2_with ((go_at_call 72; refine (signed3_3 _).mono ?_; rintro e w1 ⟨rfl, rfl⟩))
  go_ret
  exact ⟨rfl, rfl⟩

set_option maxRecDepth 100000 in
set_option maxHeartbeats 400000 in
theorem sar3_4_0 (w : World) : Calls Tryd.prog 64 #[.int .i64 3, .int .u64 4, .int .u64 0] w fun e w' => e = .returned (.int .u64 18446744073709551612) ∧ w = w' := by
  go_enter Tryd.func64, Tryd.ntmps64
  go_wp2_with ((go_at_call 72; refine (signed3_4 _).mono ?_; rintro e w1 ⟨rfl, rfl⟩))
  go_ret
  exact ⟨rfl, rfl⟩

set_option maxRecDepth 100000 in
set_option maxHeartbeats 400000 in
theorem sar3_4_1 (w : World) : Calls Tryd.prog 64 #[.int .i64 3, .int .u64 4, .int .u64 1] w fun e w' => e = .returned (.int .u64 18446744073709551614) ∧ w = w' := by
  go_enter Tryd.func64, Tryd.ntmps64
  go_wp2_with ((go_at_call 72; refine (signed3_4 _).mono ?_; rintro e w1 ⟨rfl, rfl⟩))
  go_ret
  exact ⟨rfl, rfl⟩

set_option maxRecDepth 100000 in
set_option maxHeartbeats 400000 in
theorem sar3_4_2 (w : World) : Calls Tryd.prog 64 #[.int .i64 3, .int .u64 4, .int .u64 2] w fun e w' => e = .returned (.int .u64 18446744073709551615) ∧ w = w' := by
  go_enter Tryd.func64, Tryd.ntmps64
  go_wp2_with ((go_at_call 72; refine (signed3_4 _).mono ?_; rintro e w1 ⟨rfl, rfl⟩))
  go_ret
  exact ⟨rfl, rfl⟩

set_option maxRecDepth 100000 in
set_option maxHeartbeats 400000 in
theorem sar3_4_3 (w : World) : Calls Tryd.prog 64 #[.int .i64 3, .int .u64 4, .int .u64 3] w fun e w' => e = .returned (.int .u64 18446744073709551615) ∧ w = w' := by
  go_enter Tryd.func64, Tryd.ntmps64
  go_wp2_with ((go_at_call 72; refine (signed3_4 _).mono ?_; rintro e w1 ⟨rfl, rfl⟩))
  go_ret
  exact ⟨rfl, rfl⟩

set_option maxRecDepth 100000 in
set_option maxHeartbeats 400000 in
theorem sar3_4_4 (w : World) : Calls Tryd.prog 64 #[.int .i64 3, .int .u64 4, .int .u64 4] w fun e w' => e = .returned (.int .u64 18446744073709551615) ∧ w = w' := by
  go_enter Tryd.func64, Tryd.ntmps64
  go_wp2_with ((go_at_call 72; refine (signed3_4 _).mono ?_; rintro e w1 ⟨rfl, rfl⟩))
  go_ret
  exact ⟨rfl, rfl⟩

set_option maxRecDepth 100000 in
set_option maxHeartbeats 400000 in
theorem sar3_4_5 (w : World) : Calls Tryd.prog 64 #[.int .i64 3, .int .u64 4, .int .u64 5] w fun e w' => e = .returned (.int .u64 18446744073709551615) ∧ w = w' := by
  go_enter Tryd.func64, Tryd.ntmps64
  go_wp2_with ((go_at_call 72; refine (signed3_4 _).mono ?_; rintro e w1 ⟨rfl, rfl⟩))
  go_ret
  exact ⟨rfl, rfl⟩

set_option maxRecDepth 100000 in
set_option maxHeartbeats 400000 in
theorem sar3_4_6 (w : World) : Calls Tryd.prog 64 #[.int .i64 3, .int .u64 4, .int .u64 6] w fun e w' => e = .returned (.int .u64 18446744073709551615) ∧ w = w' := by
  go_enter Tryd.func64, Tryd.ntmps64
  go_wp2_with ((go_at_call 72; refine (signed3_4 _).mono ?_; rintro e w1 ⟨rfl, rfl⟩))
  go_ret
  exact ⟨rfl, rfl⟩

set_option maxRecDepth 100000 in
set_option maxHeartbeats 400000 in
theorem sar3_4_7 (w : World) : Calls Tryd.prog 64 #[.int .i64 3, .int .u64 4, .int .u64 7] w fun e w' => e = .returned (.int .u64 18446744073709551615) ∧ w = w' := by
  go_enter Tryd.func64, Tryd.ntmps64
  go_wp2_with ((go_at_call 72; refine (signed3_4 _).mono ?_; rintro e w1 ⟨rfl, rfl⟩))
  go_ret
  exact ⟨rfl, rfl⟩

set_option maxRecDepth 100000 in
set_option maxHeartbeats 400000 in
theorem sar3_5_0 (w : World) : Calls Tryd.prog 64 #[.int .i64 3, .int .u64 5, .int .u64 0] w fun e w' => e = .returned (.int .u64 18446744073709551613) ∧ w = w' := by
  go_enter Tryd.func64, Tryd.ntmps64
  go_wp2_with ((go_at_call 72; refine (signed3_5 _).mono ?_; rintro e w1 ⟨rfl, rfl⟩))
  go_ret
  exact ⟨rfl, rfl⟩

set_option maxRecDepth 100000 in
set_option maxHeartbeats 400000 in
theorem sar3_5_1 (w : World) : Calls Tryd.prog 64 #[.int .i64 3, .int .u64 5, .int .u64 1] w fun e w' => e = .returned (.int .u64 18446744073709551614) ∧ w = w' := by
  go_enter Tryd.func64, Tryd.ntmps64
  go_wp2_with ((go_at_call 72; refine (signed3_5 _).mono ?_; rintro e w1 ⟨rfl, rfl⟩))
  go_ret
  exact ⟨rfl, rfl⟩

set_option maxRecDepth 100000 in
set_option maxHeartbeats 400000 in
theorem sar3_5_2 (w : World) : Calls Tryd.prog 64 #[.int .i64 3, .int .u64 5, .int .u64 2] w fun e w' => e = .returned (.int .u64 18446744073709551615) ∧ w = w' := by
  go_enter Tryd.func64, Tryd.ntmps64
  go_wp2_with ((go_at_call 72; refine (signed3_5 _).mono ?_; rintro e w1 ⟨rfl, rfl⟩))
  go_ret
  exact ⟨rfl, rfl⟩

set_option maxRecDepth 100000 in
set_option maxHeartbeats 400000 in
theorem sar3_5_3 (w : World) : Calls Tryd.prog 64 #[.int .i64 3, .int .u64 5, .int .u64 3] w fun e w' => e = .returned (.int .u64 18446744073709551615) ∧ w = w' := by
  go_enter Tryd.func64, Tryd.ntmps64
  go_wp2_with ((go_at_call 72; refine (signed3_5 _).mono ?_; rintro e w1 ⟨rfl, rfl⟩))
  go_ret
  exact ⟨rfl, rfl⟩

set_option maxRecDepth 100000 in
set_option maxHeartbeats 400000 in
theorem sar3_5_4 (w : World) : Calls Tryd.prog 64 #[.int .i64 3, .int .u64 5, .int .u64 4] w fun e w' => e = .returned (.int .u64 18446744073709551615) ∧ w = w' := by
  go_enter Tryd.func64, Tryd.ntmps64
  go_wp2_with ((go_at_call 72; refine (signed3_5 _).mono ?_; rintro e w1 ⟨rfl, rfl⟩))
  go_ret
  exact ⟨rfl, rfl⟩

set_option maxRecDepth 100000 in
set_option maxHeartbeats 400000 in
theorem sar3_5_5 (w : World) : Calls Tryd.prog 64 #[.int .i64 3, .int .u64 5, .int .u64 5] w fun e w' => e = .returned (.int .u64 18446744073709551615) ∧ w = w' := by
  go_enter Tryd.func64, Tryd.ntmps64
  go_wp2_with ((go_at_call 72; refine (signed3_5 _).mono ?_; rintro e w1 ⟨rfl, rfl⟩))
  go_ret
  exact ⟨rfl, rfl⟩

set_option maxRecDepth 100000 in
set_option maxHeartbeats 400000 in
theorem sar3_5_6 (w : World) : Calls Tryd.prog 64 #[.int .i64 3, .int .u64 5, .int .u64 6] w fun e w' => e = .returned (.int .u64 18446744073709551615) ∧ w = w' := by
  go_enter Tryd.func64, Tryd.ntmps64
  go_wp2_with ((go_at_call 72; refine (signed3_5 _).mono ?_; rintro e w1 ⟨rfl, rfl⟩))
  go_ret
  exact ⟨rfl, rfl⟩

set_option maxRecDepth 100000 in
set_option maxHeartbeats 400000 in
theorem sar3_5_7 (w : World) : Calls Tryd.prog 64 #[.int .i64 3, .int .u64 5, .int .u64 7] w fun e w' => e = .returned (.int .u64 18446744073709551615) ∧ w = w' := by
  go_enter Tryd.func64, Tryd.ntmps64
  go_wp2_with ((go_at_call 72; refine (signed3_5 _).mono ?_; rintro e w1 ⟨rfl, rfl⟩))
  go_ret
  exact ⟨rfl, rfl⟩

set_option maxRecDepth 100000 in
set_option maxHeartbeats 400000 in
theorem sar3_6_0 (w : World) : Calls Tryd.prog 64 #[.int .i64 3, .int .u64 6, .int .u64 0] w fun e w' => e = .returned (.int .u64 18446744073709551614) ∧ w = w' := by
  go_enter Tryd.func64, Tryd.ntmps64
  go_wp2_with ((go_at_call 72; refine (signed3_6 _).mono ?_; rintro e w1 ⟨rfl, rfl⟩))
  go_ret
  exact ⟨rfl, rfl⟩

set_option maxRecDepth 100000 in
set_option maxHeartbeats 400000 in
theorem sar3_6_1 (w : World) : Calls Tryd.prog 64 #[.int .i64 3, .int .u64 6, .int .u64 1] w fun e w' => e = .returned (.int .u64 18446744073709551615) ∧ w = w' := by
  go_enter Tryd.func64, Tryd.ntmps64
  go_wp2_with ((go_at_call 72; refine (signed3_6 _).mono ?_; rintro e w1 ⟨rfl, rfl⟩))
  go_ret
  exact ⟨rfl, rfl⟩

set_option maxRecDepth 100000 in
set_option maxHeartbeats 400000 in
theorem sar3_6_2 (w : World) : Calls Tryd.prog 64 #[.int .i64 3, .int .u64 6, .int .u64 2] w fun e w' => e = .returned (.int .u64 18446744073709551615) ∧ w = w' := by
  go_enter Tryd.func64, Tryd.ntmps64
  go_wp2_with ((go_at_call 72; refine (signed3_6 _).mono ?_; rintro e w1 ⟨rfl, rfl⟩))
  go_ret
  exact ⟨rfl, rfl⟩

set_option maxRecDepth 100000 in
set_option maxHeartbeats 400000 in
theorem sar3_6_3 (w : World) : Calls Tryd.prog 64 #[.int .i64 3, .int .u64 6, .int .u64 3] w fun e w' => e = .returned (.int .u64 18446744073709551615) ∧ w = w' := by
  go_enter Tryd.func64, Tryd.ntmps64
  go_wp2_with ((go_at_call 72; refine (signed3_6 _).mono ?_; rintro e w1 ⟨rfl, rfl⟩))
  go_ret
  exact ⟨rfl, rfl⟩

set_option maxRecDepth 100000 in
set_option maxHeartbeats 400000 in
theorem sar3_6_4 (w : World) : Calls Tryd.prog 64 #[.int .i64 3, .int .u64 6, .int .u64 4] w fun e w' => e = .returned (.int .u64 18446744073709551615) ∧ w = w' := by
  go_enter Tryd.func64, Tryd.ntmps64
  go_wp2_with ((go_at_call 72; refine (signed3_6 _).mono ?_; rintro e w1 ⟨rfl, rfl⟩))
  go_ret
  exact ⟨rfl, rfl⟩

set_option maxRecDepth 100000 in
set_option maxHeartbeats 400000 in
theorem sar3_6_5 (w : World) : Calls Tryd.prog 64 #[.int .i64 3, .int .u64 6, .int .u64 5] w fun e w' => e = .returned (.int .u64 18446744073709551615) ∧ w = w' := by
  go_enter Tryd.func64, Tryd.ntmps64
  go_wp2_with ((go_at_call 72; refine (signed3_6 _).mono ?_; rintro e w1 ⟨rfl, rfl⟩))
  go_ret
  exact ⟨rfl, rfl⟩

set_option maxRecDepth 100000 in
set_option maxHeartbeats 400000 in
theorem sar3_6_6 (w : World) : Calls Tryd.prog 64 #[.int .i64 3, .int .u64 6, .int .u64 6] w fun e w' => e = .returned (.int .u64 18446744073709551615) ∧ w = w' := by
  go_enter Tryd.func64, Tryd.ntmps64
  go_wp2_with ((go_at_call 72; refine (signed3_6 _).mono ?_; rintro e w1 ⟨rfl, rfl⟩))
  go_ret
  exact ⟨rfl, rfl⟩

set_option maxRecDepth 100000 in
set_option maxHeartbeats 400000 in
theorem sar3_6_7 (w : World) : Calls Tryd.prog 64 #[.int .i64 3, .int .u64 6, .int .u64 7] w fun e w' => e = .returned (.int .u64 18446744073709551615) ∧ w = w' := by
  go_enter Tryd.func64, Tryd.ntmps64
  go_wp2_with ((go_at_call 72; refine (signed3_6 _).mono ?_; rintro e w1 ⟨rfl, rfl⟩))
  go_ret
  exact ⟨rfl, rfl⟩

set_option maxRecDepth 100000 in
set_option maxHeartbeats 400000 in
theorem sar3_7_0 (w : World) : Calls Tryd.prog 64 #[.int .i64 3, .int .u64 7, .int .u64 0] w fun e w' => e = .returned (.int .u64 18446744073709551615) ∧ w = w' := by
  go_enter Tryd.func64, Tryd.ntmps64
  go_wp2_with ((go_at_call 72; refine (signed3_7 _).mono ?_; rintro e w1 ⟨rfl, rfl⟩))
  go_ret
  exact ⟨rfl, rfl⟩

set_option maxRecDepth 100000 in
set_option maxHeartbeats 400000 in
theorem sar3_7_1 (w : World) : Calls Tryd.prog 64 #[.int .i64 3, .int .u64 7, .int .u64 1] w fun e w' => e = .returned (.int .u64 18446744073709551615) ∧ w = w' := by
  go_enter Tryd.func64, Tryd.ntmps64
  go_wp2_with ((go_at_call 72; refine (signed3_7 _).mono ?_; rintro e w1 ⟨rfl, rfl⟩))
  go_ret
  exact ⟨rfl, rfl⟩

set_option maxRecDepth 100000 in
set_option maxHeartbeats 400000 in
theorem sar3_7_2 (w : World) : Calls Tryd.prog 64 #[.int .i64 3, .int .u64 7, .int .u64 2] w fun e w' => e = .returned (.int .u64 18446744073709551615) ∧ w = w' := by
  go_enter Tryd.func64, Tryd.ntmps64
  go_wp2_with ((go_at_call 72; refine (signed3_7 _).mono ?_; rintro e w1 ⟨rfl, rfl⟩))
  go_ret
  exact ⟨rfl, rfl⟩

set_option maxRecDepth 100000 in
set_option maxHeartbeats 400000 in
theorem sar3_7_3 (w : World) : Calls Tryd.prog 64 #[.int .i64 3, .int .u64 7, .int .u64 3] w fun e w' => e = .returned (.int .u64 18446744073709551615) ∧ w = w' := by
  go_enter Tryd.func64, Tryd.ntmps64
  go_wp2_with ((go_at_call 72; refine (signed3_7 _).mono ?_; rintro e w1 ⟨rfl, rfl⟩))
  go_ret
  exact ⟨rfl, rfl⟩

set_option maxRecDepth 100000 in
set_option maxHeartbeats 400000 in
theorem sar3_7_4 (w : World) : Calls Tryd.prog 64 #[.int .i64 3, .int .u64 7, .int .u64 4] w fun e w' => e = .returned (.int .u64 18446744073709551615) ∧ w = w' := by
  go_enter Tryd.func64, Tryd.ntmps64
  go_wp2_with ((go_at_call 72; refine (signed3_7 _).mono ?_; rintro e w1 ⟨rfl, rfl⟩))
  go_ret
  exact ⟨rfl, rfl⟩

set_option maxRecDepth 100000 in
set_option maxHeartbeats 400000 in
theorem sar3_7_5 (w : World) : Calls Tryd.prog 64 #[.int .i64 3, .int .u64 7, .int .u64 5] w fun e w' => e = .returned (.int .u64 18446744073709551615) ∧ w = w' := by
  go_enter Tryd.func64, Tryd.ntmps64
  go_wp2_with ((go_at_call 72; refine (signed3_7 _).mono ?_; rintro e w1 ⟨rfl, rfl⟩))
  go_ret
  exact ⟨rfl, rfl⟩

set_option maxRecDepth 100000 in
set_option maxHeartbeats 400000 in
theorem sar3_7_6 (w : World) : Calls Tryd.prog 64 #[.int .i64 3, .int .u64 7, .int .u64 6] w fun e w' => e = .returned (.int .u64 18446744073709551615) ∧ w = w' := by
  go_enter Tryd.func64, Tryd.ntmps64
  go_wp2_with ((go_at_call 72; refine (signed3_7 _).mono ?_; rintro e w1 ⟨rfl, rfl⟩))
  go_ret
  exact ⟨rfl, rfl⟩

set_option maxRecDepth 100000 in
set_option maxHeartbeats 400000 in
theorem sar3_7_7 (w : World) : Calls Tryd.prog 64 #[.int .i64 3, .int .u64 7, .int .u64 7] w fun e w' => e = .returned (.int .u64 18446744073709551615) ∧ w = w' := by
  go_enter Tryd.func64, Tryd.ntmps64
  go_wp2_with ((go_at_call 72; refine (signed3_7 _).mono ?_; rintro e w1 ⟨rfl, rfl⟩))
  go_ret
  exact ⟨rfl, rfl⟩

theorem shl3 (x y : Nat) (hx : x < 8) (hy : y < 8) (w : World) : Calls Tryd.prog 62 #[.int .i64 3, .int .u64 (x : Int), .int .u64 (y : Int)] w fun e w' => ∃ r : Int, e = .returned (.int .u64 r) ∧ bits BinOp.and IntKind.u64 r 7 = ((valB (shB 12 (ofB 3 x) (ofB 3 y)) : Nat) : Int) ∧ w = w' := by
  rcases lt8 hx with rfl | rfl | rfl | rfl | rfl | rfl | rfl | rfl <;> rcases lt8 hy with rfl | rfl | rfl | rfl | rfl | rfl | rfl | rfl
  · exact (shl3_0_0 w).mono fun e w' h => ⟨_, h.1, by decide, h.2⟩
  · exact (shl3_0_1 w).mono fun e w' h => ⟨_, h.1, by decide, h.2⟩
  · exact (shl3_0_2 w).mono fun e w' h => ⟨_, h.1, by decide, h.2⟩
  · exact (shl3_big 0 3 w (by omega)).mono fun e w' h => ⟨_, h.1, by decide, h.2⟩
  · exact (shl3_big 0 4 w (by omega)).mono fun e w' h => ⟨_, h.1, by decide, h.2⟩
  · exact (shl3_big 0 5 w (by omega)).mono fun e w' h => ⟨_, h.1, by decide, h.2⟩
  · exact (shl3_big 0 6 w (by omega)).mono fun e w' h => ⟨_, h.1, by decide, h.2⟩
  · exact (shl3_big 0 7 w (by omega)).mono fun e w' h => ⟨_, h.1, by decide, h.2⟩
  · exact (shl3_1_0 w).mono fun e w' h => ⟨_, h.1, by decide, h.2⟩
  · exact (shl3_1_1 w).mono fun e w' h => ⟨_, h.1, by decide, h.2⟩
  · exact (shl3_1_2 w).mono fun e w' h => ⟨_, h.1, by decide, h.2⟩
  · exact (shl3_big 1 3 w (by omega)).mono fun e w' h => ⟨_, h.1, by decide, h.2⟩
  · exact (shl3_big 1 4 w (by omega)).mono fun e w' h => ⟨_, h.1, by decide, h.2⟩
  · exact (shl3_big 1 5 w (by omega)).mono fun e w' h => ⟨_, h.1, by decide, h.2⟩
  · exact (shl3_big 1 6 w (by omega)).mono fun e w' h => ⟨_, h.1, by decide, h.2⟩
  · exact (shl3_big 1 7 w (by omega)).mono fun e w' h => ⟨_, h.1, by decide, h.2⟩
  · exact (shl3_2_0 w).mono fun e w' h => ⟨_, h.1, by decide, h.2⟩
  · exact (shl3_2_1 w).mono fun e w' h => ⟨_, h.1, by decide, h.2⟩
  · exact (shl3_2_2 w).mono fun e w' h => ⟨_, h.1, by decide, h.2⟩
  · exact (shl3_big 2 3 w (by omega)).mono fun e w' h => ⟨_, h.1, by decide, h.2⟩
  · exact (shl3_big 2 4 w (by omega)).mono fun e w' h => ⟨_, h.1, by decide, h.2⟩
  · exact (shl3_big 2 5 w (by omega)).mono fun e w' h => ⟨_, h.1, by decide, h.2⟩
  · exact (shl3_big 2 6 w (by omega)).mono fun e w' h => ⟨_, h.1, by decide, h.2⟩
  · exact (shl3_big 2 7 w (by omega)).mono fun e w' h => ⟨_, h.1, by decide, h.2⟩
  · exact (shl3_3_0 w).mono fun e w' h => ⟨_, h.1, by decide, h.2⟩
  · exact (shl3_3_1 w).mono fun e w' h => ⟨_, h.1, by decide, h.2⟩
  · exact (shl3_3_2 w).mono fun e w' h => ⟨_, h.1, by decide, h.2⟩
  · exact (shl3_big 3 3 w (by omega)).mono fun e w' h => ⟨_, h.1, by decide, h.2⟩
  · exact (shl3_big 3 4 w (by omega)).mono fun e w' h => ⟨_, h.1, by decide, h.2⟩
  · exact (shl3_big 3 5 w (by omega)).mono fun e w' h => ⟨_, h.1, by decide, h.2⟩
  · exact (shl3_big 3 6 w (by omega)).mono fun e w' h => ⟨_, h.1, by decide, h.2⟩
  · exact (shl3_big 3 7 w (by omega)).mono fun e w' h => ⟨_, h.1, by decide, h.2⟩
  · exact (shl3_4_0 w).mono fun e w' h => ⟨_, h.1, by decide, h.2⟩
  · exact (shl3_4_1 w).mono fun e w' h => ⟨_, h.1, by decide, h.2⟩
  · exact (shl3_4_2 w).mono fun e w' h => ⟨_, h.1, by decide, h.2⟩
  · exact (shl3_big 4 3 w (by omega)).mono fun e w' h => ⟨_, h.1, by decide, h.2⟩
  · exact (shl3_big 4 4 w (by omega)).mono fun e w' h => ⟨_, h.1, by decide, h.2⟩
  · exact (shl3_big 4 5 w (by omega)).mono fun e w' h => ⟨_, h.1, by decide, h.2⟩
  · exact (shl3_big 4 6 w (by omega)).mono fun e w' h => ⟨_, h.1, by decide, h.2⟩
  · exact (shl3_big 4 7 w (by omega)).mono fun e w' h => ⟨_, h.1, by decide, h.2⟩
  · exact (shl3_5_0 w).mono fun e w' h => ⟨_, h.1, by decide, h.2⟩
  · exact (shl3_5_1 w).mono fun e w' h => ⟨_, h.1, by decide, h.2⟩
  · exact (shl3_5_2 w).mono fun e w' h => ⟨_, h.1, by decide, h.2⟩
  · exact (shl3_big 5 3 w (by omega)).mono fun e w' h => ⟨_, h.1, by decide, h.2⟩
  · exact (shl3_big 5 4 w (by omega)).mono fun e w' h => ⟨_, h.1, by decide, h.2⟩
  · exact (shl3_big 5 5 w (by omega)).mono fun e w' h => ⟨_, h.1, by decide, h.2⟩
  · exact (shl3_big 5 6 w (by omega)).mono fun e w' h => ⟨_, h.1, by decide, h.2⟩
  · exact (shl3_big 5 7 w (by omega)).mono fun e w' h => ⟨_, h.1, by decide, h.2⟩
  · exact (shl3_6_0 w).mono fun e w' h => ⟨_, h.1, by decide, h.2⟩
  · exact (shl3_6_1 w).mono fun e w' h => ⟨_, h.1, by decide, h.2⟩
  · exact (shl3_6_2 w).mono fun e w' h => ⟨_, h.1, by decide, h.2⟩
  · exact (shl3_big 6 3 w (by omega)).mono fun e w' h => ⟨_, h.1, by decide, h.2⟩
  · exact (shl3_big 6 4 w (by omega)).mono fun e w' h => ⟨_, h.1, by decide, h.2⟩
  · exact (shl3_big 6 5 w (by omega)).mono fun e w' h => ⟨_, h.1, by decide, h.2⟩
  · exact (shl3_big 6 6 w (by omega)).mono fun e w' h => ⟨_, h.1, by decide, h.2⟩
  · exact (shl3_big 6 7 w (by omega)).mono fun e w' h => ⟨_, h.1, by decide, h.2⟩
  · exact (shl3_7_0 w).mono fun e w' h => ⟨_, h.1, by decide, h.2⟩
  · exact (shl3_7_1 w).mono fun e w' h => ⟨_, h.1, by decide, h.2⟩
  · exact (shl3_7_2 w).mono fun e w' h => ⟨_, h.1, by decide, h.2⟩
  · exact (shl3_big 7 3 w (by omega)).mono fun e w' h => ⟨_, h.1, by decide, h.2⟩
  · exact (shl3_big 7 4 w (by omega)).mono fun e w' h => ⟨_, h.1, by decide, h.2⟩
  · exact (shl3_big 7 5 w (by omega)).mono fun e w' h => ⟨_, h.1, by decide, h.2⟩
  · exact (shl3_big 7 6 w (by omega)).mono fun e w' h => ⟨_, h.1, by decide, h.2⟩
  · exact (shl3_big 7 7 w (by omega)).mono fun e w' h => ⟨_, h.1, by decide, h.2⟩

theorem shr3 (x y : Nat) (hx : x < 8) (hy : y < 8) (w : World) : Calls Tryd.prog 63 #[.int .i64 3, .int .u64 (x : Int), .int .u64 (y : Int)] w fun e w' => ∃ r : Int, e = .returned (.int .u64 r) ∧ bits BinOp.and IntKind.u64 r 7 = ((valB (shB 13 (ofB 3 x) (ofB 3 y)) : Nat) : Int) ∧ w = w' := by
  rcases lt8 hx with rfl | rfl | rfl | rfl | rfl | rfl | rfl | rfl <;> rcases lt8 hy with rfl | rfl | rfl | rfl | rfl | rfl | rfl | rfl
  · exact (shr3_0_0 w).mono fun e w' h => ⟨_, h.1, by decide, h.2⟩
  · exact (shr3_0_1 w).mono fun e w' h => ⟨_, h.1, by decide, h.2⟩
  · exact (shr3_0_2 w).mono fun e w' h => ⟨_, h.1, by decide, h.2⟩
  · exact (shr3_big 0 3 w (by omega)).mono fun e w' h => ⟨_, h.1, by decide, h.2⟩
  · exact (shr3_big 0 4 w (by omega)).mono fun e w' h => ⟨_, h.1, by decide, h.2⟩
  · exact (shr3_big 0 5 w (by omega)).mono fun e w' h => ⟨_, h.1, by decide, h.2⟩
  · exact (shr3_big 0 6 w (by omega)).mono fun e w' h => ⟨_, h.1, by decide, h.2⟩
  · exact (shr3_big 0 7 w (by omega)).mono fun e w' h => ⟨_, h.1, by decide, h.2⟩
  · exact (shr3_1_0 w).mono fun e w' h => ⟨_, h.1, by decide, h.2⟩
  · exact (shr3_1_1 w).mono fun e w' h => ⟨_, h.1, by decide, h.2⟩
  · exact (shr3_1_2 w).mono fun e w' h => ⟨_, h.1, by decide, h.2⟩
  · exact (shr3_big 1 3 w (by omega)).mono fun e w' h => ⟨_, h.1, by decide, h.2⟩
  · exact (shr3_big 1 4 w (by omega)).mono fun e w' h => ⟨_, h.1, by decide, h.2⟩
  · exact (shr3_big 1 5 w (by omega)).mono fun e w' h => ⟨_, h.1, by decide, h.2⟩
  · exact (shr3_big 1 6 w (by omega)).mono fun e w' h => ⟨_, h.1, by decide, h.2⟩
  · exact (shr3_big 1 7 w (by omega)).mono fun e w' h => ⟨_, h.1, by decide, h.2⟩
  · exact (shr3_2_0 w).mono fun e w' h => ⟨_, h.1, by decide, h.2⟩
  · exact (shr3_2_1 w).mono fun e w' h => ⟨_, h.1, by decide, h.2⟩
  · exact (shr3_2_2 w).mono fun e w' h => ⟨_, h.1, by decide, h.2⟩
  · exact (shr3_big 2 3 w (by omega)).mono fun e w' h => ⟨_, h.1, by decide, h.2⟩
  · exact (shr3_big 2 4 w (by omega)).mono fun e w' h => ⟨_, h.1, by decide, h.2⟩
  · exact (shr3_big 2 5 w (by omega)).mono fun e w' h => ⟨_, h.1, by decide, h.2⟩
  · exact (shr3_big 2 6 w (by omega)).mono fun e w' h => ⟨_, h.1, by decide, h.2⟩
  · exact (shr3_big 2 7 w (by omega)).mono fun e w' h => ⟨_, h.1, by decide, h.2⟩
  · exact (shr3_3_0 w).mono fun e w' h => ⟨_, h.1, by decide, h.2⟩
  · exact (shr3_3_1 w).mono fun e w' h => ⟨_, h.1, by decide, h.2⟩
  · exact (shr3_3_2 w).mono fun e w' h => ⟨_, h.1, by decide, h.2⟩
  · exact (shr3_big 3 3 w (by omega)).mono fun e w' h => ⟨_, h.1, by decide, h.2⟩
  · exact (shr3_big 3 4 w (by omega)).mono fun e w' h => ⟨_, h.1, by decide, h.2⟩
  · exact (shr3_big 3 5 w (by omega)).mono fun e w' h => ⟨_, h.1, by decide, h.2⟩
  · exact (shr3_big 3 6 w (by omega)).mono fun e w' h => ⟨_, h.1, by decide, h.2⟩
  · exact (shr3_big 3 7 w (by omega)).mono fun e w' h => ⟨_, h.1, by decide, h.2⟩
  · exact (shr3_4_0 w).mono fun e w' h => ⟨_, h.1, by decide, h.2⟩
  · exact (shr3_4_1 w).mono fun e w' h => ⟨_, h.1, by decide, h.2⟩
  · exact (shr3_4_2 w).mono fun e w' h => ⟨_, h.1, by decide, h.2⟩
  · exact (shr3_big 4 3 w (by omega)).mono fun e w' h => ⟨_, h.1, by decide, h.2⟩
  · exact (shr3_big 4 4 w (by omega)).mono fun e w' h => ⟨_, h.1, by decide, h.2⟩
  · exact (shr3_big 4 5 w (by omega)).mono fun e w' h => ⟨_, h.1, by decide, h.2⟩
  · exact (shr3_big 4 6 w (by omega)).mono fun e w' h => ⟨_, h.1, by decide, h.2⟩
  · exact (shr3_big 4 7 w (by omega)).mono fun e w' h => ⟨_, h.1, by decide, h.2⟩
  · exact (shr3_5_0 w).mono fun e w' h => ⟨_, h.1, by decide, h.2⟩
  · exact (shr3_5_1 w).mono fun e w' h => ⟨_, h.1, by decide, h.2⟩
  · exact (shr3_5_2 w).mono fun e w' h => ⟨_, h.1, by decide, h.2⟩
  · exact (shr3_big 5 3 w (by omega)).mono fun e w' h => ⟨_, h.1, by decide, h.2⟩
  · exact (shr3_big 5 4 w (by omega)).mono fun e w' h => ⟨_, h.1, by decide, h.2⟩
  · exact (shr3_big 5 5 w (by omega)).mono fun e w' h => ⟨_, h.1, by decide, h.2⟩
  · exact (shr3_big 5 6 w (by omega)).mono fun e w' h => ⟨_, h.1, by decide, h.2⟩
  · exact (shr3_big 5 7 w (by omega)).mono fun e w' h => ⟨_, h.1, by decide, h.2⟩
  · exact (shr3_6_0 w).mono fun e w' h => ⟨_, h.1, by decide, h.2⟩
  · exact (shr3_6_1 w).mono fun e w' h => ⟨_, h.1, by decide, h.2⟩
  · exact (shr3_6_2 w).mono fun e w' h => ⟨_, h.1, by decide, h.2⟩
  · exact (shr3_big 6 3 w (by omega)).mono fun e w' h => ⟨_, h.1, by decide, h.2⟩
  · exact (shr3_big 6 4 w (by omega)).mono fun e w' h => ⟨_, h.1, by decide, h.2⟩
  · exact (shr3_big 6 5 w (by omega)).mono fun e w' h => ⟨_, h.1, by decide, h.2⟩
  · exact (shr3_big 6 6 w (by omega)).mono fun e w' h => ⟨_, h.1, by decide, h.2⟩
  · exact (shr3_big 6 7 w (by omega)).mono fun e w' h => ⟨_, h.1, by decide, h.2⟩
  · exact (shr3_7_0 w).mono fun e w' h => ⟨_, h.1, by decide, h.2⟩
  · exact (shr3_7_1 w).mono fun e w' h => ⟨_, h.1, by decide, h.2⟩
  · exact (shr3_7_2 w).mono fun e w' h => ⟨_, h.1, by decide, h.2⟩
  · exact (shr3_big 7 3 w (by omega)).mono fun e w' h => ⟨_, h.1, by decide, h.2⟩
  · exact (shr3_big 7 4 w (by omega)).mono fun e w' h => ⟨_, h.1, by decide, h.2⟩
  · exact (shr3_big 7 5 w (by omega)).mono fun e w' h => ⟨_, h.1, by decide, h.2⟩
  · exact (shr3_big 7 6 w (by omega)).mono fun e w' h => ⟨_, h.1, by decide, h.2⟩
  · exact (shr3_big 7 7 w (by omega)).mono fun e w' h => ⟨_, h.1, by decide, h.2⟩

theorem sar3 (x y : Nat) (hx : x < 8) (hy : y < 8) (w : World) : Calls Tryd.prog 64 #[.int .i64 3, .int .u64 (x : Int), .int .u64 (y : Int)] w fun e w' => ∃ r : Int, e = .returned (.int .u64 r) ∧ bits BinOp.and IntKind.u64 r 7 = ((valB (shB 14 (ofB 3 x) (ofB 3 y)) : Nat) : Int) ∧ w = w' := by
  rcases lt8 hx with rfl | rfl | rfl | rfl | rfl | rfl | rfl | rfl <;> rcases lt8 hy with rfl | rfl | rfl | rfl | rfl | rfl | rfl | rfl
  · exact (sar3_0_0 w).mono fun e w' h => ⟨_, h.1, by decide, h.2⟩
  · exact (sar3_0_1 w).mono fun e w' h => ⟨_, h.1, by decide, h.2⟩
  · exact (sar3_0_2 w).mono fun e w' h => ⟨_, h.1, by decide, h.2⟩
  · exact (sar3_0_3 w).mono fun e w' h => ⟨_, h.1, by decide, h.2⟩
  · exact (sar3_0_4 w).mono fun e w' h => ⟨_, h.1, by decide, h.2⟩
  · exact (sar3_0_5 w).mono fun e w' h => ⟨_, h.1, by decide, h.2⟩
  · exact (sar3_0_6 w).mono fun e w' h => ⟨_, h.1, by decide, h.2⟩
  · exact (sar3_0_7 w).mono fun e w' h => ⟨_, h.1, by decide, h.2⟩
  · exact (sar3_1_0 w).mono fun e w' h => ⟨_, h.1, by decide, h.2⟩
  · exact (sar3_1_1 w).mono fun e w' h => ⟨_, h.1, by decide, h.2⟩
  · exact (sar3_1_2 w).mono fun e w' h => ⟨_, h.1, by decide, h.2⟩
  · exact (sar3_1_3 w).mono fun e w' h => ⟨_, h.1, by decide, h.2⟩
  · exact (sar3_1_4 w).mono fun e w' h => ⟨_, h.1, by decide, h.2⟩
  · exact (sar3_1_5 w).mono fun e w' h => ⟨_, h.1, by decide, h.2⟩
  · exact (sar3_1_6 w).mono fun e w' h => ⟨_, h.1, by decide, h.2⟩
  · exact (sar3_1_7 w).mono fun e w' h => ⟨_, h.1, by decide, h.2⟩
  · exact (sar3_2_0 w).mono fun e w' h => ⟨_, h.1, by decide, h.2⟩
  · exact (sar3_2_1 w).mono fun e w' h => ⟨_, h.1, by decide, h.2⟩
  · exact (sar3_2_2 w).mono fun e w' h => ⟨_, h.1, by decide, h.2⟩
  · exact (sar3_2_3 w).mono fun e w' h => ⟨_, h.1, by decide, h.2⟩
  · exact (sar3_2_4 w).mono fun e w' h => ⟨_, h.1, by decide, h.2⟩
  · exact (sar3_2_5 w).mono fun e w' h => ⟨_, h.1, by decide, h.2⟩
  · exact (sar3_2_6 w).mono fun e w' h => ⟨_, h.1, by decide, h.2⟩
  · exact (sar3_2_7 w).mono fun e w' h => ⟨_, h.1, by decide, h.2⟩
  · exact (sar3_3_0 w).mono fun e w' h => ⟨_, h.1, by decide, h.2⟩
  · exact (sar3_3_1 w).mono fun e w' h => ⟨_, h.1, by decide, h.2⟩
  · exact (sar3_3_2 w).mono fun e w' h => ⟨_, h.1, by decide, h.2⟩
  · exact (sar3_3_3 w).mono fun e w' h => ⟨_, h.1, by decide, h.2⟩
  · exact (sar3_3_4 w).mono fun e w' h => ⟨_, h.1, by decide, h.2⟩
  · exact (sar3_3_5 w).mono fun e w' h => ⟨_, h.1, by decide, h.2⟩
  · exact (sar3_3_6 w).mono fun e w' h => ⟨_, h.1, by decide, h.2⟩
  · exact (sar3_3_7 w).mono fun e w' h => ⟨_, h.1, by decide, h.2⟩
  · exact (sar3_4_0 w).mono fun e w' h => ⟨_, h.1, by decide, h.2⟩
  · exact (sar3_4_1 w).mono fun e w' h => ⟨_, h.1, by decide, h.2⟩
  · exact (sar3_4_2 w).mono fun e w' h => ⟨_, h.1, by decide, h.2⟩
  · exact (sar3_4_3 w).mono fun e w' h => ⟨_, h.1, by decide, h.2⟩
  · exact (sar3_4_4 w).mono fun e w' h => ⟨_, h.1, by decide, h.2⟩
  · exact (sar3_4_5 w).mono fun e w' h => ⟨_, h.1, by decide, h.2⟩
  · exact (sar3_4_6 w).mono fun e w' h => ⟨_, h.1, by decide, h.2⟩
  · exact (sar3_4_7 w).mono fun e w' h => ⟨_, h.1, by decide, h.2⟩
  · exact (sar3_5_0 w).mono fun e w' h => ⟨_, h.1, by decide, h.2⟩
  · exact (sar3_5_1 w).mono fun e w' h => ⟨_, h.1, by decide, h.2⟩
  · exact (sar3_5_2 w).mono fun e w' h => ⟨_, h.1, by decide, h.2⟩
  · exact (sar3_5_3 w).mono fun e w' h => ⟨_, h.1, by decide, h.2⟩
  · exact (sar3_5_4 w).mono fun e w' h => ⟨_, h.1, by decide, h.2⟩
  · exact (sar3_5_5 w).mono fun e w' h => ⟨_, h.1, by decide, h.2⟩
  · exact (sar3_5_6 w).mono fun e w' h => ⟨_, h.1, by decide, h.2⟩
  · exact (sar3_5_7 w).mono fun e w' h => ⟨_, h.1, by decide, h.2⟩
  · exact (sar3_6_0 w).mono fun e w' h => ⟨_, h.1, by decide, h.2⟩
  · exact (sar3_6_1 w).mono fun e w' h => ⟨_, h.1, by decide, h.2⟩
  · exact (sar3_6_2 w).mono fun e w' h => ⟨_, h.1, by decide, h.2⟩
  · exact (sar3_6_3 w).mono fun e w' h => ⟨_, h.1, by decide, h.2⟩
  · exact (sar3_6_4 w).mono fun e w' h => ⟨_, h.1, by decide, h.2⟩
  · exact (sar3_6_5 w).mono fun e w' h => ⟨_, h.1, by decide, h.2⟩
  · exact (sar3_6_6 w).mono fun e w' h => ⟨_, h.1, by decide, h.2⟩
  · exact (sar3_6_7 w).mono fun e w' h => ⟨_, h.1, by decide, h.2⟩
  · exact (sar3_7_0 w).mono fun e w' h => ⟨_, h.1, by decide, h.2⟩
  · exact (sar3_7_1 w).mono fun e w' h => ⟨_, h.1, by decide, h.2⟩
  · exact (sar3_7_2 w).mono fun e w' h => ⟨_, h.1, by decide, h.2⟩
  · exact (sar3_7_3 w).mono fun e w' h => ⟨_, h.1, by decide, h.2⟩
  · exact (sar3_7_4 w).mono fun e w' h => ⟨_, h.1, by decide, h.2⟩
  · exact (sar3_7_5 w).mono fun e w' h => ⟨_, h.1, by decide, h.2⟩
  · exact (sar3_7_6 w).mono fun e w' h => ⟨_, h.1, by decide, h.2⟩
  · exact (sar3_7_7 w).mono fun e w' h => ⟨_, h.1, by decide, h.2⟩

set_option maxRecDepth 100000 in
set_option maxHeartbeats 400000 in
theorem arity_12 (w : World) : Calls Tryd.prog 43 #[.int .u8 12] w fun e w' => e = .returned (.tuple #[.int .i64 2, .int .i64 0]) ∧ Below w.heap.size w w' := by
  have hix : ∀ w, (Instr.index 113 (.agg fin22) (.int .u8 12)).run Tryd.prog w = .ok (.int .u8 2) w := fun _ => by kernel_rfl
  go_enter Tryd.func43, Tryd.ntmps43
  go_wp2_with (go_at_call 53; refine (arities_any _).mono ?_; rintro e w1 ⟨rfl, hb1⟩)
  go_ret2
  exact ⟨rfl, hb1⟩

set_option maxRecDepth 100000 in
set_option maxHeartbeats 400000 in
theorem arity_13 (w : World) : Calls Tryd.prog 43 #[.int .u8 13] w fun e w' => e = .returned (.tuple #[.int .i64 2, .int .i64 0]) ∧ Below w.heap.size w w' := by
  have hix : ∀ w, (Instr.index 113 (.agg fin22) (.int .u8 13)).run Tryd.prog w = .ok (.int .u8 2) w := fun _ => by kernel_rfl
  go_enter Tryd.func43, Tryd.ntmps43
  go_wp2_with (go_at_call 53; refine (arities_any _).mono ?_; rintro e w1 ⟨rfl, hb1⟩)
  go_ret2
  exact ⟨rfl, hb1⟩

set_option maxRecDepth 100000 in
set_option maxHeartbeats 400000 in
theorem arity_14 (w : World) : Calls Tryd.prog 43 #[.int .u8 14] w fun e w' => e = .returned (.tuple #[.int .i64 2, .int .i64 0]) ∧ Below w.heap.size w w' := by
  have hix : ∀ w, (Instr.index 113 (.agg fin22) (.int .u8 14)).run Tryd.prog w = .ok (.int .u8 2) w := fun _ => by kernel_rfl
  go_enter Tryd.func43, Tryd.ntmps43
  go_wp2_with (go_at_call 53; refine (arities_any _).mono ?_; rintro e w1 ⟨rfl, hb1⟩)
  go_ret2
  exact ⟨rfl, hb1⟩

def tableV : Array Value := #[.nilFunc, .nilFunc, .nilFunc, .nilFunc, .func (.func 54) #[] #[], .func (.func 55) #[] #[], .func (.func 56) #[] #[], .func (.func 57) #[] #[], .func (.func 58) #[] #[], .func (.func 59) #[] #[], .func (.func 60) #[] #[], .func (.func 61) #[] #[], .func (.func 62) #[] #[], .func (.func 63) #[] #[], .func (.func 64) #[] #[], .func (.func 65) #[] #[], .func (.func 66) #[] #[], .func (.func 67) #[] #[], .func (.func 68) #[] #[], .func (.func 69) #[] #[], .func (.func 70) #[] #[], .nilFunc]
def zeroV : Array Value := #[.nilFunc, .nilFunc, .nilFunc, .nilFunc, .nilFunc, .nilFunc, .nilFunc, .nilFunc, .nilFunc, .nilFunc, .nilFunc, .nilFunc, .nilFunc, .nilFunc, .nilFunc, .nilFunc, .nilFunc, .nilFunc, .nilFunc, .nilFunc, .nilFunc, .nilFunc]
theorem table_new (w : World) : ((w.alloc (.cells zeroV 103)).setRow w.heap.size tableV).heap[w.heap.size]? = some (.cells tableV 103 (0, 0)) := setRow_heap _ _ zeroV tableV _ _ (by rw [heap_al, if_pos rfl])
theorem table_below (w : World) : Below w.heap.size w ((w.alloc (.cells zeroV 103)).setRow w.heap.size tableV) := setRow_below _ _ _ _ (Nat.le_refl _) ((Below.refl _ _).alloc (Nat.le_refl _) _)
set_option maxRecDepth 100000 in
set_option maxHeartbeats 1600000 in
theorem table_any (w : World) : Calls Tryd.prog 45 #[] w fun e w' => e = .returned (.agg tableV) ∧ Below w.heap.size w w' := by
  go_enter Tryd.func45, Tryd.ntmps45
  go_wp2_with (refine wpList_store_row rfl 103 (.tmp 0) (.tmp 18) rfl w.heap.size tableV rfl rfl 103 zeroV (by rw [heap_al, if_pos rfl]; rfl) (by as_aux_lemma => kernel_rfl) (by as_aux_lemma => kernel_rfl) (by as_aux_lemma => kernel_rfl) ?_; have hg8 := table_new w; have hb8 := table_below w; unfold zeroV at hg8 hb8; generalize World.setRow _ w.heap.size tableV = w8 at hg8 hb8 ⊢; have HG8 := hid hg8; have HB8 := hid hb8; clear hg8 hb8)
  refine bodyPost_ret (results_cell_row (g := w.heap.size) (t := 103) (cs := tableV) (fr := (0, 0)) (d := .array 22 102) rfl _ _ rfl HG8.out (by as_aux_lemma => kernel_rfl) rfl (by as_aux_lemma => kernel_rfl)) rfl ⟨rfl, HB8.out⟩

end Go.Proofs.YtjcnhnifageikaaDoor
