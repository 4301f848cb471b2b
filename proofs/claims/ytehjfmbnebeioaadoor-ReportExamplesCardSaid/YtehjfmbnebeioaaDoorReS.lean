/-
  The reference of reports: signed numbers, the words of errors.
-/
import Derived.Test.YtehjfmbnebeioaaDoorReN
import Derived.Test.YtehjfmbnebeioaaDoorRpM
namespace Go.Proofs.YtehjfmbnebeioaaDoor
set_option linter.unusedSimpArgs false
set_option linter.unusedVariables false
open Go.RowKit Go.Shelf
attribute [local go_sem] Oper.semAt_some

set_option maxRecDepth 100000 in
set_option maxHeartbeats 400000 in
theorem rsigned_any (n : Int) (w : World) (hn : -9223372036854775808 ≤ n ∧ n ≤ 9223372036854775807) : Calls Tryd.prog 44 #[.int .i64 n] w fun e w' => e = .returned (.string ⟨(Lib.itoa n).toArray⟩) ∧ Below w.heap.size w w' := by
  by_cases h : n < 0
  · obtain ⟨m, hm⟩ : ∃ m, n.natAbs = m := ⟨_, rfl⟩
    have hnm : n = -(m : Int) := by omega
    have HI := hid (show Lib.itoa n = 45 :: Lib.decDigits m from by unfold Lib.itoa; rw [if_pos h, hm])
    obtain ⟨N, hN⟩ : ∃ N : Int, n + 18446744073709551616 = N := ⟨_, rfl⟩
    have t1 : decide (n < 0) = true := decide_eq_true h
    have e1 : IntKind.u64.wrap n = N := by rw [IntKind.wrap_u64]; omega
    have e2 : IntKind.u64.wrap (-N) = (m : Int) := by rw [IntKind.wrap_u64]; omega
    have HNM := hid (rnumR_any m (by omega))
    obtain ⟨D, hD⟩ : ∃ D, Lib.decDigits m = D := ⟨_, rfl⟩
    rw [hD] at HI HNM
    have hk : ¬ 9223372036854775807 < 1 + D.length := by rw [← hD, Lib.decDigits_length]; have := nDigits_20 m (by omega); omega
    have zD : (⟨D.toArray⟩ : ByteArray).size = D.length := size_mkS D
    clear hm hnm hN hD hn
    go_enter Tryd.func44, Tryd.ntmps44
    go_wp2_with (go_at_call 53; (with_reducible refine (HNM.out _).mono ?_); rintro e w1 ⟨rfl, hb⟩; have HB := hid hb; clear hb)
    go_ret
    refine ⟨?_, HB.out⟩
    rw [HI.out]
    exact congrArg (fun s : ByteArray => Ending.returned (.string s)) (by apply ByteArray.ext; simp)
  · obtain ⟨m, hm⟩ : ∃ m, n.toNat = m := ⟨_, rfl⟩
    have hnm : n = (m : Int) := by omega
    have HI := hid (show Lib.itoa n = Lib.decDigits m from by unfold Lib.itoa; rw [if_neg h, hm])
    have t1 : decide (n < 0) = false := decide_eq_false h
    have e1 : IntKind.u64.wrap n = (m : Int) := by rw [IntKind.wrap_u64]; omega
    have HNM := hid (rnumR_any m (by omega))
    clear hm hnm hn
    go_enter Tryd.func44, Tryd.ntmps44
    go_wp2_with (go_at_call 53; (with_reducible refine (HNM.out _).mono ?_); rintro e w1 ⟨rfl, hb⟩; have HB := hid hb; clear hb)
    go_ret
    exact ⟨by rw [HI.out]; rfl, HB.out⟩
set_option maxRecDepth 100000 in
set_option maxHeartbeats 400000 in
theorem rerror_any (n : Int) (w : World) (hn : 1 ≤ n ∧ n ≤ 10) : Calls Tryd.prog 45 #[.int .i64 n] w fun e w' => e = .returned (.string ⟨(wErr n.toNat).toArray⟩) ∧ Below w.heap.size w w' := by
  have : n = 1 ∨ n = 2 ∨ n = 3 ∨ n = 4 ∨ n = 5 ∨ n = 6 ∨ n = 7 ∨ n = 8 ∨ n = 9 ∨ n = 10 := by omega
  rcases this with rfl | rfl | rfl | rfl | rfl | rfl | rfl | rfl | rfl | rfl
  all_goals
    go_enter Tryd.func45, Tryd.ntmps45
    go_wp2_with fail
    go_ret
    exact ⟨rfl, (Below.refl _ _).alloc (Nat.le_refl _) _⟩

end Go.Proofs.YtehjfmbnebeioaaDoor
