/-
  How the numbers of MuldivBack compare.
-/
import Derived.Test.YtngimdbjcelkeaaMl2
namespace Go.Proofs.Ytngimdbjcelkeaa
set_option linter.unusedSimpArgs false
set_option linter.unusedVariables false
open Go.RowKit Go.Shelf

theorem divQ_lt {m X B : Nat} (hX : X < 2 ^ m) : divQ m X B < 2 ^ m := by
  unfold divQ
  have : 1 ≤ 2 ^ m := Nat.one_le_two_pow
  split
  · omega
  · exact Nat.lt_of_le_of_lt (Nat.div_le_self _ _) hX

theorem back_math (ax ay : List Bool) (W : Nat) (la : ax.length = W) (lb : ay.length = W) (hW : W ≤ 64) :
    ∃ A B R P : Nat, valB ax = A ∧ valB ay = B ∧ valB (ofB W (valB ax % valB ay)) = R ∧ valB (ofB W (valB (ofB W (divQ W (valB ax) (valB ay))) * valB ay)) = P ∧ valB (ofB W (valB ay * valB (ofB W (divQ W (valB ax) (valB ay))))) = P ∧
      (bits .and .u64 (IntKind.u64.wrap ((P : Int) + R)) (maskV W) == (A : Int)) = true ∧ (((B : Int) == 0) = true ∨ (((B : Int) == 0) = false ∧ R < B)) := by
  have hA := valB_lt ax
  have hB := valB_lt ay
  rw [la] at hA
  rw [lb] at hB
  have hQ := divQ_lt (B := valB ay) hA
  have hR : valB ax % valB ay < 2 ^ W := Nat.lt_of_le_of_lt (Nat.mod_le _ _) hA
  refine ⟨_, _, _, _, rfl, rfl, rfl, rfl, by rw [Nat.mul_comm], ?_, ?_⟩
  · rw [and_maskV _ _ hW, beq_iff_eq, valB_ofB, valB_ofB, valB_ofB, Nat.mod_eq_of_lt hQ, Nat.mod_eq_of_lt hR]
    have e : (divQ W (valB ax) (valB ay) * valB ay % 2 ^ W + valB ax % valB ay) % 2 ^ W = valB ax := by
      unfold divQ
      by_cases h0 : valB ay = 0
      · rw [if_pos h0, h0, Nat.mul_zero, Nat.zero_mod, Nat.zero_add, Nat.mod_zero, Nat.mod_eq_of_lt hA]
      · rw [if_neg h0]
        have h1 := Nat.div_add_mod (valB ax) (valB ay)
        rw [Nat.mul_comm] at h1
        rw [Nat.mod_eq_of_lt (show valB ax / valB ay * valB ay < 2 ^ W by omega), h1, Nat.mod_eq_of_lt hA]
    rw [← Int.natCast_add, ← Int.natCast_emod, e]
  · by_cases h0 : valB ay = 0
    · left; rw [h0]; rfl
    · right
      refine ⟨by rw [beq_eq_false_iff_ne]; omega, ?_⟩
      rw [valB_ofB, Nat.mod_eq_of_lt hR]
      exact Nat.mod_lt _ (by omega)

end Go.Proofs.Ytngimdbjcelkeaa
