/-
  The facts that end the walk of AdderAgain: the values of its words, and how they compare.
-/
import Derived.Test.YtngimdbjcelkeaaKit
namespace Go.Proofs.Ytngimdbjcelkeaa
set_option linter.unusedSimpArgs false
set_option linter.unusedVariables false
open Go.RowKit Go.Shelf

/-- Value of a word. -/
def ValC (wK : World) (vk v : Value) (n : Nat) : Prop := ∀ w1, Quiet wK w1 → Calls Try.prog 38 #[vk, v] w1 fun e w' => e = .returned (.tuple #[.int .u64 (n : Nat), .bool true]) ∧ Quiet wK w'
/-- Value of three literals that are just laid. -/
def ValL (wK : World) (vk : Value) (z1 z2 z3 n : Int) : Prop := ∀ w1, Quiet wK w1 → Calls Try.prog 38 #[vk, .slice (some ⟨w1.heap.size, 0, none⟩) 3 3] (w1.alloc (.cells #[.int .i64 z1, .int .i64 z2, .int .i64 z3] 3)) fun e w' =>
  e = .returned (.tuple #[.int .u64 n, .bool true]) ∧ Below wK.heap.size wK w'

theorem ValC.use {wK : World} {vk v : Value} {n : Nat} (h : ValC wK vk v n) {w1 : World} (hq : Quiet wK w1) : Calls Try.prog 38 #[vk, v] w1 fun e w' => e = .returned (.tuple #[.int .u64 (n : Nat), .bool true]) ∧ Quiet wK w' := h w1 hq
theorem ValL.use {wK : World} {vk : Value} {z1 z2 z3 n : Int} (h : ValL wK vk z1 z2 z3 n) {w1 : World} (hq : Quiet wK w1) : Calls Try.prog 38 #[vk, .slice (some ⟨w1.heap.size, 0, none⟩) 3 3] (w1.alloc (.cells #[.int .i64 z1, .int .i64 z2, .int .i64 z3] 3)) fun e w' =>
  e = .returned (.tuple #[.int .u64 n, .bool true]) ∧ Below wK.heap.size wK w' := h w1 hq

theorem quiet_alloc {wK w1 w' : World} {o : Obj} (hq : Quiet wK w1) (hm : ∃ m, w' = (w1.alloc o).drewN m) : Below wK.heap.size wK w' := by
  obtain ⟨m, rfl⟩ := hm
  obtain ⟨n, rfl⟩ := hq
  exact below_drewN ((below_drewN (Below.refl _ _) n).alloc (Nat.le_refl _) _) m

theorem vall_of {bb : Nat} {wK : World} {σ : Nat → Bool} {F : Form} {ws : List (Value × List Int × List Bool)} {ls : List (Int × Bool)} {pk : Option Addr} {ck : Nat} {kk : List Int} {wA : World}
    (h : Kit bb wK σ F ws ls) (hK : KOk σ F kk) (hv : F.vars ≤ 1048576) (hr : RowR (New wA wK) wK pk (kk.map (Value.int .i8))) {z1 z2 z3 : Int} {b1 b2 b3 : Bool} (h1 : (z1, b1) ∈ ls) (h2 : (z2, b2) ∈ ls) (h3 : (z3, b3) ∈ ls) :
    ValL wK (.slice pk (F.vars + 1) ck) z1 z2 z3 ((valB [b1, b2, b3] : Nat) : Int) := by
  intro w1 hq
  have a1 := h.l _ h1
  have a2 := h.l _ h2
  have a3 := h.l _ h3
  have hr1 : RowR (fun _ => True) (w1.alloc (.cells #[.int .i64 z1, .int .i64 z2, .int .i64 z3] 3)) pk (kk.map (Value.int .i8)) := hr.keep fun k hk => ⟨trivial, by
    obtain ⟨m, rfl⟩ := hq
    have hk2 : k < wK.heap.size := hk.2
    rw [heap_al, if_neg (show ¬ k = (wK.drewN m).heap.size from fun e => by have e' : k = wK.heap.size := e; omega)]; rfl⟩
  have hl : Ints (· = w1.heap.size) (w1.alloc (.cells #[.int .i64 z1, .int .i64 z2, .int .i64 z3] 3)) (.slice (some ⟨w1.heap.size, 0, none⟩) 3 3) [z1, z2, z3] :=
    ⟨_, 3, rfl, Nat.le_refl _, by unfold maxLen; omega, by simp, RowR.lit w1 [.int .i64 z1, .int .i64 z2, .int .i64 z3] 3 rfl⟩
  have hc := value_any pk ck kk σ F _ [z1, z2, z3] _ _ _ hK hv hr1 hl (fun x hx => by
    simp only [List.mem_cons, List.not_mem_nil, or_false] at hx
    rcases hx with rfl | rfl | rfl
    · exact a1.1
    · exact a2.1
    · exact a3.1) (by simp)
  have e7 : [z1, z2, z3].map (litT σ) = [b1, b2, b3] := by
    simp only [List.map_cons, List.map_nil]
    rw [a1.2, a2.2, a3.2]
  rw [e7] at hc
  refine hc.mono ?_
  rintro e w' ⟨rfl, hm⟩
  exact ⟨rfl, quiet_alloc hq hm⟩

theorem valc_of {bb : Nat} {wK : World} {σ : Nat → Bool} {F : Form} {ws : List (Value × List Int × List Bool)} {ls : List (Int × Bool)} {pk : Option Addr} {ck : Nat} {kk : List Int} {R : Nat → Prop}
    (h : Kit bb wK σ F ws ls) (hK : KOk σ F kk) (hv : F.vars ≤ 1048576) (hr : RowR R wK pk (kk.map (Value.int .i8))) {v : Value} {zs : List Int} {bs : List Bool} (hm : (v, zs, bs) ∈ ws) (h64 : bs.length ≤ 64) :
    ValC wK (.slice pk (F.vars + 1) ck) v (valB bs) := fun w1 hq => h.value hK hv hr v zs bs hm h64 hq

/-- How the numbers of AdderAgain compare. -/
theorem again_math (ax ay : List Bool) (W : Nat) (la : ax.length = W) (lb : ay.length = W) (hW64 : W ≤ 64) :
    ∃ (A B VS VD : Nat) (VL : Int), valB ax = A ∧ valB ay = B ∧ valB (addB ax ay false) = VS ∧ valB (addB (addB ax ay false) (ay.map (!·)) true) = A ∧ valB (addB ax (ay.map (!·)) true) = VD ∧
      ((valB [lessS ax ay false, lessS ay ax false, decide (ax = ay)] : Nat) : Int) = VL ∧ ((VS : Int) == bits .and .u64 (IntKind.u64.wrap ((A : Int) + B)) (maskV W)) = true ∧
      ((VD : Int) == bits .and .u64 (IntKind.u64.wrap ((A : Int) - B)) (maskV W)) = true ∧ (B ≤ A → ((VD : Int) == bits .and .u64 ((A : Int) - B) (maskV W)) = true) ∧ (A < B → VL = 1) ∧ (B < A → VL = 2) ∧ (A = B → VL = 4) := by
  have hll : ax.length = ay.length := la.trans lb.symm
  have hLB := valB_lt ay
  rw [lb] at hLB
  have eS := addB_val ax ay false hll
  have eD := sub_val ax ay hll.symm
  rw [la] at eS eD
  simp only [Bool.toNat_false, Nat.add_zero] at eS
  refine ⟨_, _, _, _, _, rfl, rfl, rfl, by rw [sub_add ax ay hll.symm], rfl, rfl, ?_, masked_diff _ _ _ W hW64 hLB eD, fun h => by { have := masked_diff _ _ _ W hW64 hLB eD; have h1 := valB_lt ax; rw [la] at h1; have h2 := pow_le64 hW64; rw [IntWalk.u64_in _ (by omega)] at this; exact this }, fun h => by rw [cmp_lt hll h]; rfl, fun h => by rw [cmp_gt hll h]; rfl, fun h => by rw [cmp_eq hll h]; rfl⟩
  rw [eS]
  exact masked_sum _ _ W hW64

end Go.Proofs.Ytngimdbjcelkeaa
