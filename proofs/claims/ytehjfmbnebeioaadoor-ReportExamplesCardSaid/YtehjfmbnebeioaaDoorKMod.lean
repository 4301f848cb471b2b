/-
  weepholekit.Mod: the walk.
-/
import Derived.Test.YtehjfmbnebeioaaDoorLib
import Derived.Test.YtehjfmbnebeioaaDoorProg
namespace Go.Proofs.YtehjfmbnebeioaaDoor
set_option linter.unusedSimpArgs false
set_option linter.unusedVariables false
open Go.RowKit
theorem tmod_modK (n m : Int) : (n.tmod m + m) % m = n % m := by
  rw [Int.add_emod_right, Int.tmod_def, Int.sub_mul_emod_self_left]
set_option maxHeartbeats 400000 in
theorem kmod_any (n m : Int) (w : World) (hn : -9223372036854775808 ≤ n ∧ n ≤ 9223372036854775807) (hm : 0 < m ∧ m ≤ 4611686018427387904) :
    Calls Tryd.prog 13 #[.int .i64 n, .int .i64 m] w fun e w' => e = .returned (.int .i64 (n % m)) ∧ w = w' := by
  have h1 : -m < n.tmod m := Int.lt_tmod_of_pos n hm.1
  have h2 : n.tmod m < m := Int.tmod_lt_of_pos n hm.1
  have hz : (m == 0) = false := by simp; omega
  have h4 := Int.lt_tmod_of_pos (n.tmod m + m) hm.1
  have h5 := Int.tmod_lt_of_pos (n.tmod m + m) hm.1
  go_enter Tryd.func13, Tryd.ntmps13
  go_wp2
  go_ret
  exact ⟨ret_i (tmod_modK n m), rfl⟩
/-- The rest is a place. -/
theorem kmod_nat (n : Int) (m : Nat) (w : World) (hn : -9223372036854775808 ≤ n ∧ n ≤ 9223372036854775807) (hm : 0 < m) (hm2 : m ≤ 4611686018427387904) : ∃ k : Nat, k < m ∧ n % (m : Int) = (k : Int) ∧
    ∀ w : World, Calls Tryd.prog 13 #[.int .i64 n, .int .i64 (m : Int)] w fun e w' => e = .returned (.int .i64 (k : Int)) ∧ w = w' := by
  have h0 := Int.emod_nonneg n (show (m : Int) ≠ 0 by omega)
  have h1 := Int.emod_lt_of_pos n (show 0 < (m : Int) by omega)
  refine ⟨(n % (m : Int)).toNat, by omega, by omega, fun w => ?_⟩
  rw [Int.toNat_of_nonneg h0]
  exact kmod_any n m w hn ⟨by omega, by omega⟩
end Go.Proofs.YtehjfmbnebeioaaDoor
