/-
  The walk of package adder's iterator over two words, side by side.
-/
import Derived.Test.YtngimdbjcelkeaaAdd3
import Derived.Test.YtngimdbjcelkeaaReg
import Derived.RangeFuncNested
import Derived.RangeFuncBound
import Derived.RangeFuncCalls
import Derived.RangeFuncLeaves
import Derived.RangeFuncWrites
import Derived.Shelf.RegionOpen
import Derived.OwnWalkIn
import Derived.TacticsInMore
import Derived.LoopNIn
import Derived.LoopIn
namespace Go.Proofs.Ytngimdbjcelkeaa
set_option linter.unusedSimpArgs false
set_option linter.unusedVariables false
open Go.RowKit Go.Shelf
attribute [local go_sem] Oper.semAt_some

/-- What a round must keep for the iterator. -/
def KpS (S : Nat → Prop) (W W' : World) : Prop := ∀ k, S k → W'.heap[k]? = W.heap[k]?
theorem KpS.refl (S : Nat → Prop) (W : World) : KpS S W W := fun _ _ => rfl
theorem KpS.trans {S : Nat → Prop} {A B C : World} (h : KpS S A B) (k : KpS S B C) : KpS S A C := fun i hi => (k i hi).trans (h i hi)

set_option maxRecDepth 100000 in
set_option maxHeartbeats 2000000 in
theorem pairs1_in (F : Fence) (n : Nat) (hFa : ∀ f, F.fn f) (hro : F.round = none) (hn : 1 ≤ n) (l Bx By : Nat) (S : Nat → Prop) (px py : Option Addr) (cx cy : Nat) (xs ys : List Int) (hl : ys.length = xs.length) (hm : xs.length ≤ 140737488355328)
    (J : Nat → World → Prop) (hJd : ∀ k W, J k W → J k W.drew)
    (hY : ∀ k (hk : k < xs.length) (hk' : k < ys.length) W, J k W → YieldAt F (n - 1) Try.prog l #[.int .i64 xs[k], .int .i64 ys[k]] W fun e W' =>
      e = .returned (.bool true) ∧ J (k + 1) W' ∧ KpS S W W')
    (W : World) (hSx : S Bx) (hSy : S By) (hBx : W.cell? ⟨Bx, 0, none⟩ = some (.slice px xs.length cx)) (hBy : W.cell? ⟨By, 0, none⟩ = some (.slice py ys.length cy))
    (hrx : RowR S W px (xs.map (Value.int .i64))) (hry : RowR S W py (ys.map (Value.int .i64))) (h0 : J 0 W) :
    CallsIn F n Try.prog 119 #[.func (.yield l) #[] #[], .pointer (some ⟨Bx, 0, none⟩), .pointer (some ⟨By, 0, none⟩)] W fun e W' => (∃ v, e = .returned v) ∧ J xs.length W' := by
  refine callsIn_of_wp Try.func119 rfl (hFa _) ?_ hro
  simp only [Try.ntmps119, List.size_toArray, List.length_cons, List.length_nil, Nat.reduceAdd, Nat.reduceSub, Array.replicate_succ, Array.replicate_zero, List.push_toArray, List.append_toArray, List.nil_append, List.cons_append]
  gi_wp2
  gi_loopw [7] (fun i wr => ∃ k : Nat, k ≤ xs.length ∧ i = .int .i64 k ∧ J k wr ∧ KpS S W wr) (fun i _ => xs.length - (intOf i).toNat)
  case atStart => exact ⟨0, Nat.zero_le _, rfl, h0, KpS.refl _ _⟩
  case round =>
    obtain ⟨k, hk, rfl, hJs, hnx⟩ := hrel
    by_cases hlt : k < xs.length
    · have hcx := (World.cell?_of_block (a := ⟨Bx, 0, none⟩) (hnx Bx hSx)).trans hBx
      have hcy := (World.cell?_of_block (a := ⟨By, 0, none⟩) (hnx By hSy)).trans hBy
      obtain ⟨bx, ox, rfl, hbx, hx⟩ := (hrx.keep (fun j hj => ⟨hj, hnx j hj⟩)).atI k hlt
      obtain ⟨by_, oy, rfl, hby, hy⟩ := (hry.keep (fun j hj => ⟨hj, hnx j hj⟩)).atI k (by omega)
      have h1 := hx k hlt
      have h2 := hy k (by omega)
      have hylt : k < ys.length := by omega
      have hYk := hY k hlt hylt wr.drew (hJd _ _ hJs)
      generalize xs[k] = x at *
      generalize ys[k] = y at *
      clear hx hy hrx hry
      obtain ⟨fn, tmps, assign, body, hy', hR⟩ := hYk
      have HR := hid hR; clear hR
      have hmo : Try.prog.follows .mixedOrders = true := by kernel_rfl
      have hS : (fun W' : World => W'.cell? ⟨Bx, 0, none⟩ = some (.slice (some ⟨bx, ox, none⟩) xs.length cx) ∧ W'.cell? ⟨By, 0, none⟩ = some (.slice (some ⟨by_, oy, none⟩) ys.length cy) ∧ W'.cell? ⟨bx, ox + k, none⟩ = some (.int .i64 x) ∧ W'.cell? ⟨by_, oy + k, none⟩ = some (.int .i64 y)) wr.drew := ⟨hcx, hcy, h1, h2⟩
      have hSK : ∀ W', KpS S wr.drew W' → (fun W' : World => W'.cell? ⟨Bx, 0, none⟩ = some (.slice (some ⟨bx, ox, none⟩) xs.length cx) ∧ W'.cell? ⟨By, 0, none⟩ = some (.slice (some ⟨by_, oy, none⟩) ys.length cy) ∧ W'.cell? ⟨bx, ox + k, none⟩ = some (.int .i64 x) ∧ W'.cell? ⟨by_, oy + k, none⟩ = some (.int .i64 y)) W' := fun W' hK =>
        ⟨(World.cell?_of_block (a := ⟨Bx, 0, none⟩) (hK Bx hSx)).trans hcx, (World.cell?_of_block (a := ⟨By, 0, none⟩) (hK By hSy)).trans hcy, (World.cell?_of_block (a := ⟨bx, ox + k, none⟩) (hK bx hbx)).trans h1, (World.cell?_of_block (a := ⟨by_, oy + k, none⟩) (hK by_ hby)).trans h2⟩
      have HSK := hid hSK; clear hSK
      gi_wp2
      refine wpIn_region_HI (fun W' : World => W'.cell? ⟨Bx, 0, none⟩ = some (.slice (some ⟨bx, ox, none⟩) xs.length cx) ∧ W'.cell? ⟨By, 0, none⟩ = some (.slice (some ⟨by_, oy, none⟩) ys.length cy) ∧ W'.cell? ⟨bx, ox + k, none⟩ = some (.int .i64 x) ∧ W'.cell? ⟨by_, oy + k, none⟩ = some (.int .i64 y)) 99 hmo ?_
      simp only [List.size_toArray, List.length_cons, List.length_nil, Nat.reduceAdd]
      refine wpHI_take (v := ?v0) 0 hFa rfl (by kernel_rfl) (fun _ _ _ h => h) (Or.inl ⟨by rfl, ?y0⟩) hS ?r0
      case y0 => (intro w' hS'; obtain ⟨s1, s2, s3, s4⟩ := hS'; go_simp; try rfl)
      simp only [Act.put, List.setIfInBounds_toArray, List.set_cons_zero, List.set_cons_succ]
      refine wpHI_take (v := ?v1) 1 hFa rfl (by kernel_rfl) (fun _ _ _ h => h) (Or.inl ⟨by rfl, ?y1⟩) hS ?r1
      case y1 => (intro w' hS'; obtain ⟨s1, s2, s3, s4⟩ := hS'; go_simp; try rfl)
      simp only [Act.put, List.setIfInBounds_toArray, List.set_cons_zero, List.set_cons_succ]
      refine wpHI_take (v := ?v2) 2 hFa rfl (by kernel_rfl) (fun _ _ _ h => h) (Or.inl ⟨by rfl, ?y2⟩) hS ?r2
      case y2 => (intro w' hS'; obtain ⟨s1, s2, s3, s4⟩ := hS'; go_simp; try rfl)
      simp only [Act.put, List.setIfInBounds_toArray, List.set_cons_zero, List.set_cons_succ]
      refine wpHI_take (v := ?v3) 3 hFa rfl (by kernel_rfl) (fun _ _ _ h => h) (Or.inl ⟨by rfl, ?y3⟩) hS ?r3
      case y3 => (intro w' hS'; obtain ⟨s1, s2, s3, s4⟩ := hS'; go_simp; try rfl)
      simp only [Act.put, List.setIfInBounds_toArray, List.set_cons_zero, List.set_cons_succ]
      refine wpHI_take (v := ?v4) 4 hFa rfl (by kernel_rfl) (fun _ _ _ h => h) (Or.inl ⟨by rfl, ?y4⟩) hS ?r4
      case y4 => (intro w' hS'; obtain ⟨s1, s2, s3, s4⟩ := hS'; go_simp; try rfl)
      simp only [Act.put, List.setIfInBounds_toArray, List.set_cons_zero, List.set_cons_succ]
      refine wpHI_take (v := ?v5) 5 hFa rfl (by kernel_rfl) (fun _ _ _ h => h) (Or.inl ⟨by rfl, ?y5⟩) hS ?r5
      case y5 => (intro w' hS'; obtain ⟨s1, s2, s3, s4⟩ := hS'; go_simp; try rfl)
      simp only [Act.put, List.setIfInBounds_toArray, List.set_cons_zero, List.set_cons_succ]
      refine wpHI_take (v := ?v6) 6 hFa rfl (by kernel_rfl) (fun _ _ _ h => h) (Or.inl ⟨by rfl, ?y6⟩) hS ?r6
      case y6 => (intro w' hS'; obtain ⟨s1, s2, s3, s4⟩ := hS'; go_simp; try rfl)
      simp only [Act.put, List.setIfInBounds_toArray, List.set_cons_zero, List.set_cons_succ]
      refine wpHI_take (v := ?v7) 7 hFa rfl (by kernel_rfl) (fun _ _ _ h => h) (Or.inl ⟨by rfl, ?y7⟩) hS ?r7
      case y7 => (intro w' hS'; obtain ⟨s1, s2, s3, s4⟩ := hS'; go_simp; try rfl)
      simp only [Act.put, List.setIfInBounds_toArray, List.set_cons_zero, List.set_cons_succ]
      refine wpHI_take (v := ?v8) 8 hFa rfl (by kernel_rfl) (fun _ _ _ h => h) (Or.inl ⟨by rfl, ?y8⟩) hS ?r8
      case y8 => (intro w' hS'; obtain ⟨s1, s2, s3, s4⟩ := hS'; go_simp; try rfl)
      simp only [Act.put, List.setIfInBounds_toArray, List.set_cons_zero, List.set_cons_succ]
      refine wpHI_only 9 (by kernel_rfl) rfl ?_
      intro K hK
      go_simp
      refine HR.out.mono ?_
      rintro e W3 ⟨rfl, hJ3, hK3⟩
      refine hK _ _ (.inr (HSK.out W3 hK3)) ?_
      clear hK K
      refine wpHI_only 10 (by kernel_rfl) rfl ?_
      intro K hK
      go_simp
      refine hK _ _ (.inr (HSK.out W3 hK3)) ?_
      clear hK K
      refine wpHI_done (by kernel_rfl) ?_ _
      gi_wp2
      go_roundw
      case rel => exact ⟨k + 1, by omega, by go_num, hJ3, hnx.trans (fun i hi => (hK3 i hi).trans rfl)⟩
      case measure => simp [intOf]; omega
    · obtain rfl : k = xs.length := by omega
      gi_wp2
      go_end0
      exact ⟨⟨_, rfl⟩, hJs⟩

end Go.Proofs.Ytngimdbjcelkeaa
