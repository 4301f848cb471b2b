/-
  The walks of package adder: word, one, opposite, pairs, check.
-/
import Derived.Test.YtngimdbjcelkeaaAdd1
namespace Go.Proofs.Ytngimdbjcelkeaa
set_option linter.unusedSimpArgs false
set_option linter.unusedVariables false
open Go.RowKit

theorem below_drewN {B : Nat} {a w : World} (h : Below B a w) (n : Nat) : Below B a (w.drewN n) := ⟨h.os, h.tape, h.output, h.size, h.block⟩

set_option maxHeartbeats 400000 in
theorem one_any (mb : Nat) (er n : Int) (w : World) (c1 : w.cell? ⟨mb, 1, none⟩ = some (.int .i64 er)) :
    Calls Try.prog 95 #[.pointer (some ⟨mb, 0, none⟩), .int .i64 n] w fun e w' =>
      e = .returned (.tuple #[.int .i64 (if er = 0 then n else 0), .int .i64 er]) ∧ Below w.heap.size w w' := by
  by_cases hs : er = 0
  · subst hs
    go_enter Try.func95, Try.ntmps95
    go_wp2
    go_ret2
    exact ⟨rfl, Below.refl _ _⟩
  · rw [if_neg hs]
    have hd : (er != 0) = true := by simp [hs]
    have HS := hid hs; clear hs
    go_enter Try.func95, Try.ntmps95
    go_wp2_with fail
    go_quiet (fail)
    go_wp2
    go_ret2
    exact ⟨rfl, below_drewN (Below.refl _ _) _⟩

set_option maxHeartbeats 400000 in
theorem word_any (mb : Nat) (er : Int) (p : Option Addr) (n c : Nat) (w : World) (c1 : w.cell? ⟨mb, 1, none⟩ = some (.int .i64 er)) :
    Calls Try.prog 92 #[.pointer (some ⟨mb, 0, none⟩), .slice p n c] w fun e w' =>
      e = .returned (.tuple #[if er = 0 then .slice p n c else .slice none 0 0, .int .i64 er]) ∧ Below w.heap.size w w' := by
  by_cases hs : er = 0
  · subst hs
    go_enter Try.func92, Try.ntmps92
    go_wp2
    go_ret2
    exact ⟨rfl, Below.refl _ _⟩
  · rw [if_neg hs]
    have hd : (er != 0) = true := by simp [hs]
    have HS := hid hs; clear hs
    go_enter Try.func92, Try.ntmps92
    go_wp2_with fail
    go_quiet (fail)
    go_wp2
    go_ret2
    exact ⟨rfl, below_drewN (Below.refl _ _) _⟩

/-- A row is kept where its own block is. -/
theorem owns_keep {w w' : World} {base e n : Nat} {v : Value} {xs : List Value} (h : w.ownsRow base e 1 v n xs) (hk : ∀ j, v.ownBlock = some j → w'.heap[j]? = w.heap[j]?) : w'.ownsRow base e 1 v n xs := by
  refine ⟨h.1, ?_⟩
  rcases h.2 with h' | ⟨g, cap, cur, hv, hb, hg, rest⟩
  · exact .inl h'
  · exact .inr ⟨g, cap, cur, hv, hb, (hk g (by rw [hv]; rfl)).trans hg, rest⟩

end Go.Proofs.Ytngimdbjcelkeaa
