/-
  The walks of law 39's awake and ReportWords.
-/
import Derived.Test.YtehjfmbnebeioaaDoorRpA
namespace Go.Proofs.YtehjfmbnebeioaaDoor
set_option linter.unusedSimpArgs false
set_option linter.unusedVariables false
open Go.RowKit Go.Shelf
attribute [local go_sem] Oper.semAt_some

theorem strs_litN {R : Nat → Prop} (w : World) (l : List By) (h1 : 1 ≤ l.length) (h2 : l.length ≤ 1000) (hR : R w.heap.size) : Strs R (w.alloc (.cells (l.map sV).toArray 9)) (.slice (some ⟨w.heap.size, 0, none⟩) l.length l.length) l :=
  ⟨_, l.length, by rw [List.length_map], by rw [List.length_map]; exact Nat.le_refl _, by unfold maxLen; omega, by rw [List.length_map]; omega, RowR.lit w (l.map sV) 9 hR⟩

theorem aw1_eq : linesB ⟨0, 0, 0, [], [], false, false, 0, 0, 0⟩ [[83, 69, 67, 85, 82, 69]] = true := by kernel_rfl
theorem aw1 (W : World) (ht : Tabs W) : Calls Tryd.prog 25 #[.agg #[.int .u8 0, .int .u8 0, .int .i64 0, .slice none 0 0, .slice none 0 0, .bool false, .bool false, .int .i64 0, .int .i64 0, .int .i64 0], .slice (some ⟨W.heap.size, 0, none⟩) 1 1] (W.alloc (.cells #[.string ⟨#[83, 69, 67, 85, 82, 69]⟩] 9)) fun e w' => e = .returned (.bool true) ∧ Below W.heap.size W w' := by
  have hb : Below W.heap.size W (W.alloc (.cells #[.string ⟨#[83, 69, 67, 85, 82, 69]⟩] 9)) := (Below.refl _ _).alloc (Nat.le_refl _) _
  have h := lawlines_any 0 0 0 [] [] false false 0 0 0 none none 0 0 [[83, 69, 67, 85, 82, 69]] (.slice (some ⟨W.heap.size, 0, none⟩) 1 1) (fun i => i < W.heap.size + 1) (W.alloc (.cells #[.string ⟨#[83, 69, 67, 85, 82, 69]⟩] 9)) ⟨by decide, by decide, by decide, by decide, by decide, by decide, fun l h => absurd h (by simp), fun l h => absurd h (by simp)⟩ NLL.nil NLL.nil (strs_litN W [[83, 69, 67, 85, 82, 69]] (by decide) (by decide) (by omega)) (fun i hi => by rw [World.size_alloc]; exact hi) (ht.below hb)
  rw [aw1_eq] at h
  exact h.mono fun e w' ⟨he, hb'⟩ => ⟨he, hb.trans (hb'.mono hb.size)⟩

theorem aw2_eq : linesB ⟨2, 4, 0, [], [], false, false, 0, 0, 0⟩ [[73, 78, 67, 79, 78, 67, 76, 85, 83, 73, 86, 69, 32, 102, 117, 101, 108]] = true := by kernel_rfl
theorem aw2 (W : World) (ht : Tabs W) : Calls Tryd.prog 25 #[.agg #[.int .u8 2, .int .u8 4, .int .i64 0, .slice none 0 0, .slice none 0 0, .bool false, .bool false, .int .i64 0, .int .i64 0, .int .i64 0], .slice (some ⟨W.heap.size, 0, none⟩) 1 1] (W.alloc (.cells #[.string ⟨#[73, 78, 67, 79, 78, 67, 76, 85, 83, 73, 86, 69, 32, 102, 117, 101, 108]⟩] 9)) fun e w' => e = .returned (.bool true) ∧ Below W.heap.size W w' := by
  have hb : Below W.heap.size W (W.alloc (.cells #[.string ⟨#[73, 78, 67, 79, 78, 67, 76, 85, 83, 73, 86, 69, 32, 102, 117, 101, 108]⟩] 9)) := (Below.refl _ _).alloc (Nat.le_refl _) _
  have h := lawlines_any 2 4 0 [] [] false false 0 0 0 none none 0 0 [[73, 78, 67, 79, 78, 67, 76, 85, 83, 73, 86, 69, 32, 102, 117, 101, 108]] (.slice (some ⟨W.heap.size, 0, none⟩) 1 1) (fun i => i < W.heap.size + 1) (W.alloc (.cells #[.string ⟨#[73, 78, 67, 79, 78, 67, 76, 85, 83, 73, 86, 69, 32, 102, 117, 101, 108]⟩] 9)) ⟨by decide, by decide, by decide, by decide, by decide, by decide, fun l h => absurd h (by simp), fun l h => absurd h (by simp)⟩ NLL.nil NLL.nil (strs_litN W [[73, 78, 67, 79, 78, 67, 76, 85, 83, 73, 86, 69, 32, 102, 117, 101, 108]] (by decide) (by decide) (by omega)) (fun i hi => by rw [World.size_alloc]; exact hi) (ht.below hb)
  rw [aw2_eq] at h
  exact h.mono fun e w' ⟨he, hb'⟩ => ⟨he, hb.trans (hb'.mono hb.size)⟩

theorem aw3_eq : linesB ⟨3, 0, 0, [], [], false, false, 3, 7, 8⟩ [[82, 69, 74, 69, 67, 84, 32, 112, 114, 111, 103, 114, 97, 109, 32, 51, 32, 55, 32, 116, 119, 105, 99, 101]] = true := by kernel_rfl
theorem aw3 (W : World) (ht : Tabs W) : Calls Tryd.prog 25 #[.agg #[.int .u8 3, .int .u8 0, .int .i64 0, .slice none 0 0, .slice none 0 0, .bool false, .bool false, .int .i64 3, .int .i64 7, .int .i64 8], .slice (some ⟨W.heap.size, 0, none⟩) 1 1] (W.alloc (.cells #[.string ⟨#[82, 69, 74, 69, 67, 84, 32, 112, 114, 111, 103, 114, 97, 109, 32, 51, 32, 55, 32, 116, 119, 105, 99, 101]⟩] 9)) fun e w' => e = .returned (.bool true) ∧ Below W.heap.size W w' := by
  have hb : Below W.heap.size W (W.alloc (.cells #[.string ⟨#[82, 69, 74, 69, 67, 84, 32, 112, 114, 111, 103, 114, 97, 109, 32, 51, 32, 55, 32, 116, 119, 105, 99, 101]⟩] 9)) := (Below.refl _ _).alloc (Nat.le_refl _) _
  have h := lawlines_any 3 0 0 [] [] false false 3 7 8 none none 0 0 [[82, 69, 74, 69, 67, 84, 32, 112, 114, 111, 103, 114, 97, 109, 32, 51, 32, 55, 32, 116, 119, 105, 99, 101]] (.slice (some ⟨W.heap.size, 0, none⟩) 1 1) (fun i => i < W.heap.size + 1) (W.alloc (.cells #[.string ⟨#[82, 69, 74, 69, 67, 84, 32, 112, 114, 111, 103, 114, 97, 109, 32, 51, 32, 55, 32, 116, 119, 105, 99, 101]⟩] 9)) ⟨by decide, by decide, by decide, by decide, by decide, by decide, fun l h => absurd h (by simp), fun l h => absurd h (by simp)⟩ NLL.nil NLL.nil (strs_litN W [[82, 69, 74, 69, 67, 84, 32, 112, 114, 111, 103, 114, 97, 109, 32, 51, 32, 55, 32, 116, 119, 105, 99, 101]] (by decide) (by decide) (by omega)) (fun i hi => by rw [World.size_alloc]; exact hi) (ht.below hb)
  rw [aw3_eq] at h
  exact h.mono fun e w' ⟨he, hb'⟩ => ⟨he, hb.trans (hb'.mono hb.size)⟩

theorem aw4_eq : linesB ⟨3, 0, 0, [], [], false, true, 2, 1, 4⟩ [[82, 69, 74, 69, 67, 84, 32, 112, 111, 108, 105, 99, 121, 32, 50, 32, 49, 32, 102, 111, 114, 109]] = true := by kernel_rfl
theorem aw4 (W : World) (ht : Tabs W) : Calls Tryd.prog 25 #[.agg #[.int .u8 3, .int .u8 0, .int .i64 0, .slice none 0 0, .slice none 0 0, .bool false, .bool true, .int .i64 2, .int .i64 1, .int .i64 4], .slice (some ⟨W.heap.size, 0, none⟩) 1 1] (W.alloc (.cells #[.string ⟨#[82, 69, 74, 69, 67, 84, 32, 112, 111, 108, 105, 99, 121, 32, 50, 32, 49, 32, 102, 111, 114, 109]⟩] 9)) fun e w' => e = .returned (.bool true) ∧ Below W.heap.size W w' := by
  have hb : Below W.heap.size W (W.alloc (.cells #[.string ⟨#[82, 69, 74, 69, 67, 84, 32, 112, 111, 108, 105, 99, 121, 32, 50, 32, 49, 32, 102, 111, 114, 109]⟩] 9)) := (Below.refl _ _).alloc (Nat.le_refl _) _
  have h := lawlines_any 3 0 0 [] [] false true 2 1 4 none none 0 0 [[82, 69, 74, 69, 67, 84, 32, 112, 111, 108, 105, 99, 121, 32, 50, 32, 49, 32, 102, 111, 114, 109]] (.slice (some ⟨W.heap.size, 0, none⟩) 1 1) (fun i => i < W.heap.size + 1) (W.alloc (.cells #[.string ⟨#[82, 69, 74, 69, 67, 84, 32, 112, 111, 108, 105, 99, 121, 32, 50, 32, 49, 32, 102, 111, 114, 109]⟩] 9)) ⟨by decide, by decide, by decide, by decide, by decide, by decide, fun l h => absurd h (by simp), fun l h => absurd h (by simp)⟩ NLL.nil NLL.nil (strs_litN W [[82, 69, 74, 69, 67, 84, 32, 112, 111, 108, 105, 99, 121, 32, 50, 32, 49, 32, 102, 111, 114, 109]] (by decide) (by decide) (by omega)) (fun i hi => by rw [World.size_alloc]; exact hi) (ht.below hb)
  rw [aw4_eq] at h
  exact h.mono fun e w' ⟨he, hb'⟩ => ⟨he, hb.trans (hb'.mono hb.size)⟩

theorem aw6_eq : linesB ⟨1, 0, 1, [], [], false, false, 0, 0, 0⟩ [[76, 69, 65, 75, 32, 97, 116, 32, 104, 105, 103, 104, 32, 101, 120, 112, 108, 105, 99, 105, 116], [102, 105, 114, 115, 116, 32, 112, 117, 98], [115, 101, 99, 111, 110, 100, 32, 112, 117, 98], [102, 105, 114, 115, 116, 32, 115, 101, 99], [115, 101, 99, 111, 110, 100, 32, 115, 101, 99]] = true := by kernel_rfl
theorem aw6 (W : World) (ht : Tabs W) : Calls Tryd.prog 25 #[.agg #[.int .u8 1, .int .u8 0, .int .i64 1, .slice none 0 0, .slice none 0 0, .bool false, .bool false, .int .i64 0, .int .i64 0, .int .i64 0], .slice (some ⟨W.heap.size, 0, none⟩) 5 5] (W.alloc (.cells #[.string ⟨#[76, 69, 65, 75, 32, 97, 116, 32, 104, 105, 103, 104, 32, 101, 120, 112, 108, 105, 99, 105, 116]⟩, .string ⟨#[102, 105, 114, 115, 116, 32, 112, 117, 98]⟩, .string ⟨#[115, 101, 99, 111, 110, 100, 32, 112, 117, 98]⟩, .string ⟨#[102, 105, 114, 115, 116, 32, 115, 101, 99]⟩, .string ⟨#[115, 101, 99, 111, 110, 100, 32, 115, 101, 99]⟩] 9)) fun e w' => e = .returned (.bool true) ∧ Below W.heap.size W w' := by
  have hb : Below W.heap.size W (W.alloc (.cells #[.string ⟨#[76, 69, 65, 75, 32, 97, 116, 32, 104, 105, 103, 104, 32, 101, 120, 112, 108, 105, 99, 105, 116]⟩, .string ⟨#[102, 105, 114, 115, 116, 32, 112, 117, 98]⟩, .string ⟨#[115, 101, 99, 111, 110, 100, 32, 112, 117, 98]⟩, .string ⟨#[102, 105, 114, 115, 116, 32, 115, 101, 99]⟩, .string ⟨#[115, 101, 99, 111, 110, 100, 32, 115, 101, 99]⟩] 9)) := (Below.refl _ _).alloc (Nat.le_refl _) _
  have h := lawlines_any 1 0 1 [] [] false false 0 0 0 none none 0 0 [[76, 69, 65, 75, 32, 97, 116, 32, 104, 105, 103, 104, 32, 101, 120, 112, 108, 105, 99, 105, 116], [102, 105, 114, 115, 116, 32, 112, 117, 98], [115, 101, 99, 111, 110, 100, 32, 112, 117, 98], [102, 105, 114, 115, 116, 32, 115, 101, 99], [115, 101, 99, 111, 110, 100, 32, 115, 101, 99]] (.slice (some ⟨W.heap.size, 0, none⟩) 5 5) (fun i => i < W.heap.size + 1) (W.alloc (.cells #[.string ⟨#[76, 69, 65, 75, 32, 97, 116, 32, 104, 105, 103, 104, 32, 101, 120, 112, 108, 105, 99, 105, 116]⟩, .string ⟨#[102, 105, 114, 115, 116, 32, 112, 117, 98]⟩, .string ⟨#[115, 101, 99, 111, 110, 100, 32, 112, 117, 98]⟩, .string ⟨#[102, 105, 114, 115, 116, 32, 115, 101, 99]⟩, .string ⟨#[115, 101, 99, 111, 110, 100, 32, 115, 101, 99]⟩] 9)) ⟨by decide, by decide, by decide, by decide, by decide, by decide, fun l h => absurd h (by simp), fun l h => absurd h (by simp)⟩ NLL.nil NLL.nil (strs_litN W [[76, 69, 65, 75, 32, 97, 116, 32, 104, 105, 103, 104, 32, 101, 120, 112, 108, 105, 99, 105, 116], [102, 105, 114, 115, 116, 32, 112, 117, 98], [115, 101, 99, 111, 110, 100, 32, 112, 117, 98], [102, 105, 114, 115, 116, 32, 115, 101, 99], [115, 101, 99, 111, 110, 100, 32, 115, 101, 99]] (by decide) (by decide) (by omega)) (fun i hi => by rw [World.size_alloc]; exact hi) (ht.below hb)
  rw [aw6_eq] at h
  exact h.mono fun e w' ⟨he, hb'⟩ => ⟨he, hb.trans (hb'.mono hb.size)⟩

theorem af1_eq : failsB ⟨4, 0, 0, [], [], false, false, 0, 0, 0⟩ 3 = true := by kernel_rfl
theorem af1 (W : World) (ht : Tabs W) : Calls Tryd.prog 19 #[.agg #[.int .u8 4, .int .u8 0, .int .i64 0, .slice none 0 0, .slice none 0 0, .bool false, .bool false, .int .i64 0, .int .i64 0, .int .i64 0], .int .i64 3] W fun e w' => e = .returned (.bool true) ∧ Below W.heap.size W w' := by
  have h := lawfails_any 4 0 0 [] [] false false 0 0 0 none none 0 0 3 (fun i => i < W.heap.size) W ⟨by decide, by decide, by decide, by decide, by decide, by decide, fun l h => absurd h (by simp), fun l h => absurd h (by simp)⟩ NLL.nil NLL.nil (fun i hi => hi) ht
  rw [af1_eq] at h
  exact h

theorem af2_eq : failsB ⟨0, 2, 0, [], [], false, false, 0, 0, 0⟩ 2 = true := by kernel_rfl
theorem af2 (W : World) (ht : Tabs W) : Calls Tryd.prog 19 #[.agg #[.int .u8 0, .int .u8 2, .int .i64 0, .slice none 0 0, .slice none 0 0, .bool false, .bool false, .int .i64 0, .int .i64 0, .int .i64 0], .int .i64 2] W fun e w' => e = .returned (.bool true) ∧ Below W.heap.size W w' := by
  have h := lawfails_any 0 2 0 [] [] false false 0 0 0 none none 0 0 2 (fun i => i < W.heap.size) W ⟨by decide, by decide, by decide, by decide, by decide, by decide, fun l h => absurd h (by simp), fun l h => absurd h (by simp)⟩ NLL.nil NLL.nil (fun i hi => hi) ht
  rw [af2_eq] at h
  exact h

theorem af3_eq : failsB ⟨2, 0, 0, [], [], false, false, 0, 0, 0⟩ 3 = true := by kernel_rfl
theorem af3 (W : World) (ht : Tabs W) : Calls Tryd.prog 19 #[.agg #[.int .u8 2, .int .u8 0, .int .i64 0, .slice none 0 0, .slice none 0 0, .bool false, .bool false, .int .i64 0, .int .i64 0, .int .i64 0], .int .i64 3] W fun e w' => e = .returned (.bool true) ∧ Below W.heap.size W w' := by
  have h := lawfails_any 2 0 0 [] [] false false 0 0 0 none none 0 0 3 (fun i => i < W.heap.size) W ⟨by decide, by decide, by decide, by decide, by decide, by decide, fun l h => absurd h (by simp), fun l h => absurd h (by simp)⟩ NLL.nil NLL.nil (fun i hi => hi) ht
  rw [af3_eq] at h
  exact h

theorem af4_eq : failsB ⟨1, 0, 2, [], [], false, false, 0, 0, 0⟩ 3 = true := by kernel_rfl
theorem af4 (W : World) (ht : Tabs W) : Calls Tryd.prog 19 #[.agg #[.int .u8 1, .int .u8 0, .int .i64 2, .slice none 0 0, .slice none 0 0, .bool false, .bool false, .int .i64 0, .int .i64 0, .int .i64 0], .int .i64 3] W fun e w' => e = .returned (.bool true) ∧ Below W.heap.size W w' := by
  have h := lawfails_any 1 0 2 [] [] false false 0 0 0 none none 0 0 3 (fun i => i < W.heap.size) W ⟨by decide, by decide, by decide, by decide, by decide, by decide, fun l h => absurd h (by simp), fun l h => absurd h (by simp)⟩ NLL.nil NLL.nil (fun i hi => hi) ht
  rw [af4_eq] at h
  exact h

theorem ww1 (W : World) (ht : Tabs W) : Calls Tryd.prog 9 #[.int .u8 2, .int .u8 1] W fun e w' => e = .returned (.tuple #[.string ⟨#[73, 78, 67, 79, 78, 67, 76, 85, 83, 73, 86, 69, 32, 112, 97, 116, 104, 115]⟩, .int .i64 0]) ∧ Below W.heap.size W w' := word_any 2 1 W (by decide) (by decide) ht

theorem ww2 (W : World) (ht : Tabs W) : Calls Tryd.prog 9 #[.int .u8 1, .int .u8 0] W fun e w' => e = .returned (.tuple #[.string ⟨#[76, 69, 65, 75]⟩, .int .i64 0]) ∧ Below W.heap.size W w' := word_any 1 0 W (by decide) (by decide) ht

theorem ww3 (W : World) (ht : Tabs W) : Calls Tryd.prog 9 #[.int .u8 1, .int .u8 1] W fun e w' => e = .returned (.tuple #[.string ⟨#[]⟩, .int .i64 2]) ∧ Below W.heap.size W w' := word_any 1 1 W (by decide) (by decide) ht

theorem nll_lit2 (w : World) (l : List Nat) (h1 : 1 ≤ l.length) (h2 : l.length ≤ 1000) (W : World) (hb : Below (w.heap.size + 2) ((w.alloc (.cells (l.map nV).toArray 37)).alloc (.cells #[.slice none 0 0, .slice (some ⟨w.heap.size, 0, none⟩) l.length l.length] 36)) W) (n : Nat) (hn : n = w.heap.size + 1) :
    NLL (fun i => w.heap.size ≤ i ∧ i < w.heap.size + 2) W (.slice (some ⟨n, 0, none⟩) 2 2) [[], l] := by
  subst hn
  have z : (w.alloc (.cells (l.map nV).toArray 37)).heap.size = w.heap.size + 1 := World.size_alloc _ _
  have hr := RowR.lit (R := fun i => w.heap.size ≤ i ∧ i < w.heap.size + 2) (w.alloc (.cells (l.map nV).toArray 37)) [.slice none 0 0, .slice (some ⟨w.heap.size, 0, none⟩) l.length l.length] 36 ⟨by omega, by omega⟩
  rw [z] at hr
  have hs : Sl (fun i => w.heap.size ≤ i ∧ i < w.heap.size + 2) ((w.alloc (.cells (l.map nV).toArray 37)).alloc (.cells #[.slice none 0 0, .slice (some ⟨w.heap.size, 0, none⟩) l.length l.length] 36)) (.slice (some ⟨w.heap.size + 1, 0, none⟩) 2 2) [.slice none 0 0, .slice (some ⟨w.heap.size, 0, none⟩) l.length l.length] := ⟨_, 2, rfl, Nat.le_refl _, by unfold maxLen; omega, by simp, hr⟩
  have h0 : Nums (fun i => i = w.heap.size) (w.alloc (.cells (l.map nV).toArray 37)) (.slice (some ⟨w.heap.size, 0, none⟩) l.length l.length) l :=
    ⟨_, l.length, by rw [List.length_map], by rw [List.length_map]; exact Nat.le_refl _, by unfold maxLen; omega, by rw [List.length_map]; omega, RowR.lit w (l.map nV) 37 rfl⟩
  have h3 : Nums (fun i => w.heap.size ≤ i ∧ i < w.heap.size + 2) W (.slice (some ⟨w.heap.size, 0, none⟩) l.length l.length) l := h0.keep fun i hi => ⟨⟨by have : i = w.heap.size := hi; omega, by have : i = w.heap.size := hi; omega⟩, (hb.block i (by have : i = w.heap.size := hi; omega)).trans (by have : i = w.heap.size := hi; rw [heap_al, if_neg (by omega)])⟩
  have hsW : Sl (fun i => w.heap.size ≤ i ∧ i < w.heap.size + 2) W (.slice (some ⟨w.heap.size + 1, 0, none⟩) 2 2) [.slice none 0 0, .slice (some ⟨w.heap.size, 0, none⟩) l.length l.length] := hs.keep fun i hi => ⟨hi, hb.block i hi.2⟩
  refine ⟨_, hsW, rfl, ?_⟩
  intro i h
  match i, h with
  | 0, _ => intro _; exact Nums.nil
  | 1, _ => intro _; exact h3

theorem aw5_eq : linesB ⟨1, 0, 0, [[], [3]], [[], [0, 1]], true, false, 0, 0, 0⟩ [[76, 69, 65, 75, 32, 97, 116, 32, 108, 111, 119, 32, 105, 109, 112, 108, 105, 99, 105, 116], [102, 105, 114, 115, 116, 32, 112, 117, 98], [115, 101, 99, 111, 110, 100, 32, 112, 117, 98], [102, 105, 114, 115, 116, 32, 115, 101, 99, 32, 51], [115, 101, 99, 111, 110, 100, 32, 115, 101, 99, 32, 48, 32, 49]] = true := by kernel_rfl
theorem aw5 (W : World) (ht : Tabs W) : Calls Tryd.prog 25 #[.agg #[.int .u8 1, .int .u8 0, .int .i64 0, .slice (some ⟨W.heap.size + 1, 0, none⟩) 2 2, .slice (some ⟨W.heap.size + 1 + 1 + 1, 0, none⟩) 2 2, .bool true, .bool false, .int .i64 0, .int .i64 0, .int .i64 0], .slice (some ⟨W.heap.size + 1 + 1 + 1 + 1 + 1, 0, none⟩) 5 5] ((((((W.alloc (.cells #[.int .u64 3] 37)).alloc (.cells #[.slice none 0 0, .slice (some ⟨W.heap.size, 0, none⟩) 1 1] 36)).alloc (.cells #[.int .u64 0, .int .u64 1] 37)).alloc (.cells #[.slice none 0 0, .slice (some ⟨W.heap.size + 1 + 1, 0, none⟩) 2 2] 36)).alloc (.cells #[.int .i64 0, .slice (some ⟨W.heap.size + 1, 0, none⟩) 2 2, .slice (some ⟨W.heap.size + 1 + 1 + 1, 0, none⟩) 2 2, .bool true] 31)).alloc (.cells #[.string ⟨#[76, 69, 65, 75, 32, 97, 116, 32, 108, 111, 119, 32, 105, 109, 112, 108, 105, 99, 105, 116]⟩, .string ⟨#[102, 105, 114, 115, 116, 32, 112, 117, 98]⟩, .string ⟨#[115, 101, 99, 111, 110, 100, 32, 112, 117, 98]⟩, .string ⟨#[102, 105, 114, 115, 116, 32, 115, 101, 99, 32, 51]⟩, .string ⟨#[115, 101, 99, 111, 110, 100, 32, 115, 101, 99, 32, 48, 32, 49]⟩] 9)) fun e w' => e = .returned (.bool true) ∧ Below W.heap.size W w' := by
  obtain ⟨W2, h2⟩ : ∃ w, ((W.alloc (.cells #[.int .u64 3] 37)).alloc (.cells #[.slice none 0 0, .slice (some ⟨W.heap.size, 0, none⟩) 1 1] 36)) = w := ⟨_, rfl⟩
  have b2 : Below W.heap.size W W2 := by rw [← h2]; exact ((Below.refl _ _).alloc (Nat.le_refl _) _).alloc (by rw [World.size_alloc]; omega) _
  have z2 : W2.heap.size = W.heap.size + 2 := by rw [← h2, World.size_alloc, World.size_alloc]
  have n2 := fun w' (hb : Below (W.heap.size + 2) W2 w') => nll_lit2 W [3] (by decide) (by decide) w' (by rw [show (([3] : List Nat).map nV).toArray = #[.int .u64 3] from rfl, show ([3] : List Nat).length = 1 from rfl, h2]; exact hb) _ rfl
  rw [h2]
  clear h2
  obtain ⟨W4, h4⟩ : ∃ w, ((W2.alloc (.cells #[.int .u64 0, .int .u64 1] 37)).alloc (.cells #[.slice none 0 0, .slice (some ⟨W.heap.size + 1 + 1, 0, none⟩) 2 2] 36)) = w := ⟨_, rfl⟩
  have b4 : Below W2.heap.size W2 W4 := by rw [← h4]; exact ((Below.refl _ _).alloc (Nat.le_refl _) _).alloc (by rw [World.size_alloc]; omega) _
  have z4 : W4.heap.size = W2.heap.size + 2 := by rw [← h4, World.size_alloc, World.size_alloc]
  have n4 := fun w' (hb : Below (W2.heap.size + 2) W4 w') => nll_lit2 W2 [0, 1] (by decide) (by decide) w' (by rw [show (([0, 1] : List Nat).map nV).toArray = #[.int .u64 0, .int .u64 1] from rfl, show ([0, 1] : List Nat).length = 2 from rfl, z2, show W.heap.size + 2 = W.heap.size + 1 + 1 from rfl, h4]; rw [z2] at hb; exact hb) (W.heap.size + 1 + 1 + 1) (by omega)
  rw [h4]
  clear h4
  obtain ⟨W5, h5⟩ : ∃ w, (W4.alloc (.cells #[.int .i64 0, .slice (some ⟨W.heap.size + 1, 0, none⟩) 2 2, .slice (some ⟨W.heap.size + 1 + 1 + 1, 0, none⟩) 2 2, .bool true] 31)) = w := ⟨_, rfl⟩
  have b5 : Below W4.heap.size W4 W5 := by rw [← h5]; exact (Below.refl _ _).alloc (Nat.le_refl _) _
  have z5 : W5.heap.size = W4.heap.size + 1 := by rw [← h5, World.size_alloc]
  rw [h5]
  clear h5
  have b6 : Below W5.heap.size W5 (W5.alloc (.cells #[.string ⟨#[76, 69, 65, 75, 32, 97, 116, 32, 108, 111, 119, 32, 105, 109, 112, 108, 105, 99, 105, 116]⟩, .string ⟨#[102, 105, 114, 115, 116, 32, 112, 117, 98]⟩, .string ⟨#[115, 101, 99, 111, 110, 100, 32, 112, 117, 98]⟩, .string ⟨#[102, 105, 114, 115, 116, 32, 115, 101, 99, 32, 51]⟩, .string ⟨#[115, 101, 99, 111, 110, 100, 32, 115, 101, 99, 32, 48, 32, 49]⟩] 9)) := (Below.refl _ _).alloc (Nat.le_refl _) _
  have z6 : (W5.alloc (.cells #[.string ⟨#[76, 69, 65, 75, 32, 97, 116, 32, 108, 111, 119, 32, 105, 109, 112, 108, 105, 99, 105, 116]⟩, .string ⟨#[102, 105, 114, 115, 116, 32, 112, 117, 98]⟩, .string ⟨#[115, 101, 99, 111, 110, 100, 32, 112, 117, 98]⟩, .string ⟨#[102, 105, 114, 115, 116, 32, 115, 101, 99, 32, 51]⟩, .string ⟨#[115, 101, 99, 111, 110, 100, 32, 115, 101, 99, 32, 48, 32, 49]⟩] 9)).heap.size = W.heap.size + 6 := by rw [World.size_alloc]; omega
  have s6 := strs_litN (R := fun i => i < W.heap.size + 6) W5 [[76, 69, 65, 75, 32, 97, 116, 32, 108, 111, 119, 32, 105, 109, 112, 108, 105, 99, 105, 116], [102, 105, 114, 115, 116, 32, 112, 117, 98], [115, 101, 99, 111, 110, 100, 32, 112, 117, 98], [102, 105, 114, 115, 116, 32, 115, 101, 99, 32, 51], [115, 101, 99, 111, 110, 100, 32, 115, 101, 99, 32, 48, 32, 49]] (by decide) (by decide) (by omega)
  rw [show W5.heap.size = W.heap.size + 1 + 1 + 1 + 1 + 1 by omega] at s6
  have b46 : Below W4.heap.size W4 (W5.alloc (.cells #[.string ⟨#[76, 69, 65, 75, 32, 97, 116, 32, 108, 111, 119, 32, 105, 109, 112, 108, 105, 99, 105, 116]⟩, .string ⟨#[102, 105, 114, 115, 116, 32, 112, 117, 98]⟩, .string ⟨#[115, 101, 99, 111, 110, 100, 32, 112, 117, 98]⟩, .string ⟨#[102, 105, 114, 115, 116, 32, 115, 101, 99, 32, 51]⟩, .string ⟨#[115, 101, 99, 111, 110, 100, 32, 115, 101, 99, 32, 48, 32, 49]⟩] 9)) := b5.trans (b6.mono b5.size)
  have b26 : Below W2.heap.size W2 (W5.alloc (.cells #[.string ⟨#[76, 69, 65, 75, 32, 97, 116, 32, 108, 111, 119, 32, 105, 109, 112, 108, 105, 99, 105, 116]⟩, .string ⟨#[102, 105, 114, 115, 116, 32, 112, 117, 98]⟩, .string ⟨#[115, 101, 99, 111, 110, 100, 32, 112, 117, 98]⟩, .string ⟨#[102, 105, 114, 115, 116, 32, 115, 101, 99, 32, 51]⟩, .string ⟨#[115, 101, 99, 111, 110, 100, 32, 115, 101, 99, 32, 48, 32, 49]⟩] 9)) := b4.trans (b46.mono b4.size)
  have b06 : Below W.heap.size W (W5.alloc (.cells #[.string ⟨#[76, 69, 65, 75, 32, 97, 116, 32, 108, 111, 119, 32, 105, 109, 112, 108, 105, 99, 105, 116]⟩, .string ⟨#[102, 105, 114, 115, 116, 32, 112, 117, 98]⟩, .string ⟨#[115, 101, 99, 111, 110, 100, 32, 112, 117, 98]⟩, .string ⟨#[102, 105, 114, 115, 116, 32, 115, 101, 99, 32, 51]⟩, .string ⟨#[115, 101, 99, 111, 110, 100, 32, 115, 101, 99, 32, 48, 32, 49]⟩] 9)) := b2.trans (b26.mono b2.size)
  have A1 : NLL (fun i => i < W.heap.size + 6) (W5.alloc (.cells #[.string ⟨#[76, 69, 65, 75, 32, 97, 116, 32, 108, 111, 119, 32, 105, 109, 112, 108, 105, 99, 105, 116]⟩, .string ⟨#[102, 105, 114, 115, 116, 32, 112, 117, 98]⟩, .string ⟨#[115, 101, 99, 111, 110, 100, 32, 112, 117, 98]⟩, .string ⟨#[102, 105, 114, 115, 116, 32, 115, 101, 99, 32, 51]⟩, .string ⟨#[115, 101, 99, 111, 110, 100, 32, 115, 101, 99, 32, 48, 32, 49]⟩] 9)) (.slice (some ⟨W.heap.size + 1, 0, none⟩) 2 2) [[], [3]] := (n2 _ (by rw [← z2]; exact b26)).keep fun i hi => ⟨by omega, rfl⟩
  have A2 : NLL (fun i => i < W.heap.size + 6) (W5.alloc (.cells #[.string ⟨#[76, 69, 65, 75, 32, 97, 116, 32, 108, 111, 119, 32, 105, 109, 112, 108, 105, 99, 105, 116]⟩, .string ⟨#[102, 105, 114, 115, 116, 32, 112, 117, 98]⟩, .string ⟨#[115, 101, 99, 111, 110, 100, 32, 112, 117, 98]⟩, .string ⟨#[102, 105, 114, 115, 116, 32, 115, 101, 99, 32, 51]⟩, .string ⟨#[115, 101, 99, 111, 110, 100, 32, 115, 101, 99, 32, 48, 32, 49]⟩] 9)) (.slice (some ⟨W.heap.size + 1 + 1 + 1, 0, none⟩) 2 2) [[], [0, 1]] := (n4 _ (by rw [← z4]; exact b46)).keep fun i hi => ⟨by omega, rfl⟩
  have h := lawlines_any 1 0 0 [[], [3]] [[], [0, 1]] true false 0 0 0 (some ⟨W.heap.size + 1, 0, none⟩) (some ⟨W.heap.size + 1 + 1 + 1, 0, none⟩) 2 2 [[76, 69, 65, 75, 32, 97, 116, 32, 108, 111, 119, 32, 105, 109, 112, 108, 105, 99, 105, 116], [102, 105, 114, 115, 116, 32, 112, 117, 98], [115, 101, 99, 111, 110, 100, 32, 112, 117, 98], [102, 105, 114, 115, 116, 32, 115, 101, 99, 32, 51], [115, 101, 99, 111, 110, 100, 32, 115, 101, 99, 32, 48, 32, 49]] (.slice (some ⟨W.heap.size + 1 + 1 + 1 + 1 + 1, 0, none⟩) 5 5) (fun i => i < W.heap.size + 6) (W5.alloc (.cells #[.string ⟨#[76, 69, 65, 75, 32, 97, 116, 32, 108, 111, 119, 32, 105, 109, 112, 108, 105, 99, 105, 116]⟩, .string ⟨#[102, 105, 114, 115, 116, 32, 112, 117, 98]⟩, .string ⟨#[115, 101, 99, 111, 110, 100, 32, 112, 117, 98]⟩, .string ⟨#[102, 105, 114, 115, 116, 32, 115, 101, 99, 32, 51]⟩, .string ⟨#[115, 101, 99, 111, 110, 100, 32, 115, 101, 99, 32, 48, 32, 49]⟩] 9)) ⟨by decide, by decide, by decide, by decide, by decide, by decide, by decide, by decide⟩ A1 A2 s6 (fun i hi => by rw [z6]; exact hi) (ht.below b06)
  rw [aw5_eq] at h
  exact h.mono fun e w' ⟨he, hb'⟩ => ⟨he, b06.trans (hb'.mono b06.size)⟩

set_option maxRecDepth 100000 in
set_option maxHeartbeats 1000000 in
theorem awake_any (w : World) (ht : Tabs w) : Calls Tryd.prog 11 #[] w fun e w' => e = .returned (.bool true) ∧ Below w.heap.size w w' := by
  have HT := hid ht
  have HB := hid (Below.refl w.heap.size w)
  clear ht
  go_enter Tryd.func11, Tryd.ntmps11
  go_wp2_with (first
    | (go_at_call 25; (first | with_reducible refine (aw1 _ HT.out).mono ?_ | with_reducible refine (aw2 _ HT.out).mono ?_ | with_reducible refine (aw3 _ HT.out).mono ?_ | with_reducible refine (aw4 _ HT.out).mono ?_ | with_reducible refine (aw5 _ HT.out).mono ?_ | with_reducible refine (aw6 _ HT.out).mono ?_); rintro e w1 ⟨rfl, hb⟩; have HT := hid (HT.out.below hb); have HB := hid (HB.out.trans (hb.mono HB.out.size)); clear hb)
    | (go_at_call 19; (first | with_reducible refine (af1 _ HT.out).mono ?_ | with_reducible refine (af2 _ HT.out).mono ?_ | with_reducible refine (af3 _ HT.out).mono ?_ | with_reducible refine (af4 _ HT.out).mono ?_); rintro e w1 ⟨rfl, hb⟩; have HT := hid (HT.out.below hb); have HB := hid (HB.out.trans (hb.mono HB.out.size)); clear hb)
    | (go_at_call 9; (first | with_reducible refine (ww1 _ HT.out).mono ?_ | with_reducible refine (ww2 _ HT.out).mono ?_ | with_reducible refine (ww3 _ HT.out).mono ?_); rintro e w1 ⟨rfl, hb⟩; have HT := hid (HT.out.below hb); have HB := hid (HB.out.trans (hb.mono HB.out.size)); clear hb))
  go_ret
  exact ⟨rfl, HB.out⟩

set_option maxRecDepth 100000 in
set_option maxHeartbeats 1000000 in
theorem reportWords_any (k r : Nat) (w : World) (hk : k ≤ 255) (hr : r ≤ 255) (ht : Tabs w) : Calls Tryd.prog 3 #[.int .u8 (k : Int), .int .u8 (r : Int)] w fun e w' => e = .returned (.bool true) ∧ Below w.heap.size w w' := by
  have HT := hid ht
  have HK := hid hk; have HR := hid hr
  have HW1 := hid (fun W (hW : Tabs W) => word_any k r W hk hr hW)
  have HW2 := hid (fun W => rword_any k r W hk hr)
  unfold WordPost at HW1 HW2
  generalize wordR k r = q at *
  obtain ⟨l, c⟩ := q
  have t1 := str_eqL l l
  have t2 : decide (l = l) = true := by simp
  clear ht hk hr
  go_enter Tryd.func3, Tryd.ntmps3
  go_wp2_with (go_at_call 9; refine (HW1.out _ HT.out).mono ?_; rintro e w1 ⟨rfl, hb⟩; have HT := hid (HT.out.below hb); have HB := hid hb; clear hb)
  go_wp2_with (go_at_call 10; refine (HW2.out _).mono ?_; rintro e w2 ⟨rfl, hb⟩; have HT := hid (HT.out.below hb); have HB := hid (HB.out.trans (hb.mono HB.out.size)); clear hb)
  go_wp2_with (go_at_call 11; refine (awake_any _ HT.out).mono ?_; rintro e w3 ⟨rfl, hb⟩; have HB := hid (HB.out.trans (hb.mono HB.out.size)); clear hb)
  go_ret
  exact ⟨rfl, HB.out⟩

theorem reportWords_int (x y : Int) (w : World) (hx : 0 ≤ x ∧ x ≤ 255) (hy : 0 ≤ y ∧ y ≤ 255) (ht : Tabs w) : Calls Tryd.prog 3 #[.int .u8 x, .int .u8 y] w fun e w' => e = .returned (.bool true) ∧ Below w.heap.size w w' := by
  obtain ⟨k, rfl⟩ : ∃ k : Nat, x = k := ⟨x.toNat, by omega⟩
  obtain ⟨r, rfl⟩ : ∃ r : Nat, y = r := ⟨y.toNat, by omega⟩
  exact reportWords_any k r w (by omega) (by omega) ht

end Go.Proofs.YtehjfmbnebeioaaDoor
