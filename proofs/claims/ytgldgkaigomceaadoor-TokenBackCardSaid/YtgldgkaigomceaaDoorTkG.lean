/-
  The chapter's examples hold: awake.
-/
import Derived.Test.YtgldgkaigomceaaDoorTkF
import Derived.Laws.NewBlocks
namespace Go.Proofs.YtgldgkaigomceaaDoor
set_option linter.unusedSimpArgs false
set_option linter.unusedVariables false
open Go.RowKit Go.Shelf
attribute [local go_sem] Oper.semAt_some

theorem linesR_rt (s : Bs) (h : s.length ≤ 65536) : linesR s = match rt s 1 1 [] [] false false with
    | .error (L, C) => .error (L, C, 4)
    | .ok o => .ok o := by
  unfold linesR
  rw [if_neg (by omega), rt_tok]
  cases tok s <;> rfl
theorem says_yes (s : Bs) (ws : List (List Wd)) (v : Value) (m : Int) (R : Nat → Prop) (w : World) (hv : WLL R w v ws) (hR : ∀ k, R k → k < w.heap.size) (hm : w.cell? ⟨1, 0, none⟩ = some (.int .i64 m)) (h : linesR s = .ok ws) :
    Calls Tryd.prog 20 #[.string ⟨s.toArray⟩, v] w fun e w' => e = .returned (.bool true) ∧ Below w.heap.size w w' := by
  have := says_any s ws v m R w hv hR hm
  rw [h] at this
  simpa using this
theorem fails_yes (s : Bs) (L C : Nat) (L0 C0 : Int) (m : Int) (w : World) (hm : w.cell? ⟨1, 0, none⟩ = some (.int .i64 m)) (h : linesR s = .error (L, C, 4)) (hL : (L : Int) = L0) (hC : (C : Int) = C0) :
    Calls Tryd.prog 22 #[.string ⟨s.toArray⟩, .int .i64 L0, .int .i64 C0] w fun e w' => e = .returned (.bool true) ∧ Below w.heap.size w w' := by
  have := fails_any s L0 C0 m w hm
  rw [h] at this
  simpa [hL, hC] using this
theorem name_is (s : Bs) (b : Bool) (w : World) (hs : s.length ≤ 140737488355328) (h : nameB s = b) : Calls Tryd.prog 15 #[.string ⟨s.toArray⟩] w fun e w' => e = .returned (.bool b) ∧ Below w.heap.size w w' := by
  rw [← h]; exact name_any s w hs
theorem number_is (s : Bs) (n : Nat) (z c : Int) (w : World) (hs : s.length ≤ 140737488355328) (h : numR s = (n, c)) (hz : (n : Int) = z) : Calls Tryd.prog 14 #[.string ⟨s.toArray⟩] w fun e w' => e = .returned (.tuple #[.int .u64 z, .int .i64 c]) ∧ Below w.heap.size w w' := by
  have := number_any s w hs
  rw [h] at this
  rw [← hz]
  exact this
theorem RowR.blk {R : Nat → Prop} {w : World} {b : Nat} {cs : List Value} {t : TypeId} (h : w.heap[b]? = some (.cells cs.toArray t (0, 0))) (hR : R b) : RowR R w (some ⟨b, 0, none⟩) cs :=
  .inr ⟨b, 0, rfl, hR, fun j hj => by rw [Nat.zero_add, cell_of_row w b j _ _ _ h]; simp [hj]⟩
theorem Wds.blk {R : Nat → Prop} {w : World} {b : Nat} {ws : List Wd} {t : TypeId} {k : Nat} (h : w.heap[b]? = some (.cells (wflat ws).toArray t (0, 0))) (hR : R b) (hk : k = ws.length) (hl : ws.length ≤ maxLen) : Wds R w (.slice (some ⟨b, 0, none⟩) k k) ws := by
  subst hk
  exact ⟨_, _, rfl, Nat.le_refl _, hl, RowR.blk h hR⟩

theorem ex_a (w : World) : Below w.heap.size w ((((((w.alloc (.cells #[.string ⟨#[97]⟩, .int .i64 1, .int .i64 1] 36)).alloc (.cells #[.string ⟨#[98]⟩, .int .i64 1, .int .i64 4] 36)).alloc
      (.cells #[.string ⟨#[97]⟩, .int .i64 1, .int .i64 1, .string ⟨#[98]⟩, .int .i64 1, .int .i64 4] 36)).alloc (.cells #[.string ⟨#[99]⟩, .int .i64 2, .int .i64 1] 36)).alloc (.cells #[.string ⟨#[99]⟩, .int .i64 2, .int .i64 1] 36)).alloc
      (.cells #[.slice (some ⟨w.heap.size + 1 + 1, 0, none⟩) 2 2, .slice (some ⟨w.heap.size + 1 + 1 + 1 + 1, 0, none⟩) 1 1] 34)) ∧ WLL (fun k => k < w.heap.size + 6) ((((((w.alloc (.cells #[.string ⟨#[97]⟩, .int .i64 1, .int .i64 1] 36)).alloc (.cells #[.string ⟨#[98]⟩, .int .i64 1, .int .i64 4] 36)).alloc
      (.cells #[.string ⟨#[97]⟩, .int .i64 1, .int .i64 1, .string ⟨#[98]⟩, .int .i64 1, .int .i64 4] 36)).alloc (.cells #[.string ⟨#[99]⟩, .int .i64 2, .int .i64 1] 36)).alloc (.cells #[.string ⟨#[99]⟩, .int .i64 2, .int .i64 1] 36)).alloc
      (.cells #[.slice (some ⟨w.heap.size + 1 + 1, 0, none⟩) 2 2, .slice (some ⟨w.heap.size + 1 + 1 + 1 + 1, 0, none⟩) 1 1] 34)) (.slice (some ⟨w.heap.size + 1 + 1 + 1 + 1 + 1, 0, none⟩) 2 2) [[([97], 1, 1), ([98], 1, 4)], [([99], 2, 1)]] := by
  refine ⟨(((((((Below.refl w.heap.size w).alloc (by first | exact Nat.le_refl _ | (simp only [World.size_alloc]; omega)) _).alloc (by first | exact Nat.le_refl _ | (simp only [World.size_alloc]; omega)) _).alloc (by first | exact Nat.le_refl _ | (simp only [World.size_alloc]; omega)) _).alloc (by first | exact Nat.le_refl _ | (simp only [World.size_alloc]; omega)) _).alloc (by first | exact Nat.le_refl _ | (simp only [World.size_alloc]; omega)) _).alloc (by first | exact Nat.le_refl _ | (simp only [World.size_alloc]; omega)) _), ?_⟩
  refine ⟨[.slice (some ⟨w.heap.size + 1 + 1, 0, none⟩) 2 2, .slice (some ⟨w.heap.size + 1 + 1 + 1 + 1, 0, none⟩) 1 1], ⟨_, 2, rfl, Nat.le_refl _, by decide, (by show 2 ≤ 140737488355328; omega), RowR.blk (t := 34) ?_ (by omega)⟩, rfl, ?_⟩
  · simp only [heap_al, World.size_alloc]; (repeat rw [if_neg (by omega)]); exact if_pos trivial
  · intro i h h'
    match i, h, h' with
    | 0, _, _ => exact Wds.blk (t := 36) (by simp only [heap_al, World.size_alloc]; (repeat rw [if_neg (by omega)]); exact if_pos trivial) (by omega) rfl (by show _ ≤ 9223372036854775807; simp)
    | 1, _, _ => exact Wds.blk (t := 36) (by simp only [heap_al, World.size_alloc]; (repeat rw [if_neg (by omega)]); exact if_pos trivial) (by omega) rfl (by show _ ≤ 9223372036854775807; simp)
theorem ex_b (w : World) : Below w.heap.size w (((w.alloc (.cells #[.string ⟨#[120]⟩, .int .i64 1, .int .i64 2] 36)).alloc (.cells #[.string ⟨#[120]⟩, .int .i64 1, .int .i64 2] 36)).alloc
      (.cells #[.slice (some ⟨w.heap.size + 1, 0, none⟩) 1 1] 34)) ∧ WLL (fun k => k < w.heap.size + 3) (((w.alloc (.cells #[.string ⟨#[120]⟩, .int .i64 1, .int .i64 2] 36)).alloc (.cells #[.string ⟨#[120]⟩, .int .i64 1, .int .i64 2] 36)).alloc
      (.cells #[.slice (some ⟨w.heap.size + 1, 0, none⟩) 1 1] 34)) (.slice (some ⟨w.heap.size + 1 + 1, 0, none⟩) 1 1) [[([120], 1, 2)]] := by
  refine ⟨((((Below.refl w.heap.size w).alloc (by first | exact Nat.le_refl _ | (simp only [World.size_alloc]; omega)) _).alloc (by first | exact Nat.le_refl _ | (simp only [World.size_alloc]; omega)) _).alloc (by first | exact Nat.le_refl _ | (simp only [World.size_alloc]; omega)) _), ?_⟩
  refine ⟨[.slice (some ⟨w.heap.size + 1, 0, none⟩) 1 1], ⟨_, 1, rfl, Nat.le_refl _, by decide, (by show 1 ≤ 140737488355328; omega), RowR.blk (t := 34) ?_ (by omega)⟩, rfl, ?_⟩
  · simp only [heap_al, World.size_alloc]; (repeat rw [if_neg (by omega)]); exact if_pos trivial
  · intro i h h'
    match i, h, h' with
    | 0, _, _ => exact Wds.blk (t := 36) (by simp only [heap_al, World.size_alloc]; (repeat rw [if_neg (by omega)]); exact if_pos trivial) (by omega) rfl (by show _ ≤ 9223372036854775807; simp)

set_option maxRecDepth 100000 in
set_option maxHeartbeats 2000000 in
theorem awake_any (m : Int) (w : World) (hm : w.cell? ⟨1, 0, none⟩ = some (.int .i64 m)) :
    Calls Tryd.prog 11 #[] w fun e w' => e = .returned (.bool true) ∧ Below w.heap.size w w' := by
  have h0 : 1 < w.heap.size := World.block_lt_of_cell? w _ hm
  have HM := hid hm
  have HA := hid (ex_a w)
  have HB := hid (Below.refl w.heap.size w)
  clear hm
  go_enter Tryd.func11, Tryd.ntmps11
  go_wp2_with (go_at_call 21; with_reducible refine (word_any _ _ _ _).mono ?_; rintro e w' ⟨rfl, rfl⟩)
  refine (says_yes [97, 32, 32, 98, 10, 99] _ _ m _ _ HA.out.2 (fun k hk => by simp only [World.size_alloc]; omega) ((HA.out.1.cell h0).trans HM.out) (by rw [linesR_rt _ (by decide)]; rfl)).mono ?_
  rintro e w1 ⟨rfl, hb1⟩
  replace hb1 := HA.out.1.trans (hb1.mono HA.out.1.size)
  clear HA HB
  have HB := hid hb1
  have HA := hid (ex_b w1)
  have h01 : 1 < w1.heap.size := Nat.lt_of_lt_of_le h0 hb1.size
  clear hb1
  go_wp2_with (go_at_call 21; with_reducible refine (word_any _ _ _ _).mono ?_; rintro e w' ⟨rfl, rfl⟩)
  refine (says_yes [9, 120, 35, 121, 32, 122, 10, 10, 35] _ _ m _ _ HA.out.2 (fun k hk => by simp only [World.size_alloc]; omega) ((HA.out.1.cell h01).trans ((HB.out.cell h0).trans HM.out)) (by rw [linesR_rt _ (by decide)]; rfl)).mono ?_
  rintro e w2 ⟨rfl, hb2⟩
  replace hb2 := HB.out.trans ((HA.out.1.trans (hb2.mono HA.out.1.size)).mono HB.out.size)
  clear HA HB h01
  have HB := hid hb2
  clear hb2
  go_wp2_with fail
  refine (says_yes [] [] _ m (fun _ => False) _ WLL.nil (fun k h => h.elim) ((HB.out.cell h0).trans HM.out) (by rw [linesR_rt _ (by decide)]; rfl)).mono ?_
  rintro e w3 ⟨rfl, hb3⟩
  replace hb3 := HB.out.trans (hb3.mono HB.out.size)
  clear HB
  have HB := hid hb3
  clear hb3
  go_wp2_with fail
  refine (says_yes [32] [] _ m (fun _ => False) _ WLL.nil (fun k h => h.elim) ((HB.out.cell h0).trans HM.out) (by rw [linesR_rt _ (by decide)]; rfl)).mono ?_
  rintro e w4 ⟨rfl, hb4⟩
  replace hb4 := HB.out.trans (hb4.mono HB.out.size)
  clear HB
  have HB := hid hb4
  clear hb4
  go_wp2_with fail
  refine (fails_yes [97, 98, 10, 13] 2 1 2 1 m _ ((HB.out.cell h0).trans HM.out) (by rw [linesR_rt _ (by decide)]; rfl) rfl rfl).mono ?_
  rintro e w5 ⟨rfl, hb5⟩
  replace hb5 := HB.out.trans (hb5.mono HB.out.size)
  clear HB
  have HB := hid hb5
  clear hb5
  go_wp2_with fail
  refine (fails_yes [97, 35, 200, 10, 127] 2 1 2 1 m _ ((HB.out.cell h0).trans HM.out) (by rw [linesR_rt _ (by decide)]; rfl) rfl rfl).mono ?_
  rintro e w6 ⟨rfl, hb6⟩
  replace hb6 := HB.out.trans (hb6.mono HB.out.size)
  clear HB
  have HB := hid hb6
  clear hb6
  go_wp2_with fail
  refine (name_is [97, 95, 49] true _ (by decide) (by rfl)).mono ?_
  rintro e w7 ⟨rfl, hb7⟩
  replace hb7 := HB.out.trans (hb7.mono HB.out.size)
  clear HB
  have HB := hid hb7
  clear hb7
  go_wp2_with fail
  refine (name_is [95] true _ (by decide) (by rfl)).mono ?_
  rintro e w8 ⟨rfl, hb8⟩
  replace hb8 := HB.out.trans (hb8.mono HB.out.size)
  clear HB
  have HB := hid hb8
  clear hb8
  go_wp2_with fail
  refine (name_is [49, 97] false _ (by decide) (by rfl)).mono ?_
  rintro e w9 ⟨rfl, hb9⟩
  replace hb9 := HB.out.trans (hb9.mono HB.out.size)
  clear HB
  have HB := hid hb9
  clear hb9
  go_wp2_with fail
  refine (name_is [] false _ (by decide) (by rfl)).mono ?_
  rintro e w10 ⟨rfl, hb10⟩
  replace hb10 := HB.out.trans (hb10.mono HB.out.size)
  clear HB
  have HB := hid hb10
  clear hb10
  go_wp2_with fail
  refine ((show Calls Tryd.prog 13 #[.string ⟨#[97]⟩, .int .i64 33] w10 fun e w' => e = .returned (.string ⟨([97, 97, 97, 97, 97, 97, 97, 97, 97, 97, 97, 97, 97, 97, 97, 97, 97, 97, 97, 97, 97, 97, 97, 97, 97, 97, 97, 97, 97, 97, 97, 97, 97] : Bs).toArray⟩) ∧ Below w10.heap.size w10 w' from Tryd.strings_Repeat ⟨#[97]⟩ 33 w10 (by decide) (by decide))).mono ?_
  rintro e w11 ⟨rfl, hb11⟩
  replace hb11 := HB.out.trans (hb11.mono HB.out.size)
  clear HB
  have HB := hid hb11
  clear hb11
  go_wp2_with fail
  refine (name_is [97, 97, 97, 97, 97, 97, 97, 97, 97, 97, 97, 97, 97, 97, 97, 97, 97, 97, 97, 97, 97, 97, 97, 97, 97, 97, 97, 97, 97, 97, 97, 97, 97] false _ (by decide) (by rfl)).mono ?_
  rintro e w12 ⟨rfl, hb12⟩
  replace hb12 := HB.out.trans (hb12.mono HB.out.size)
  clear HB
  have HB := hid hb12
  clear hb12
  go_wp2_with fail
  refine (name_is [97, 45, 98] false _ (by decide) (by rfl)).mono ?_
  rintro e w13 ⟨rfl, hb13⟩
  replace hb13 := HB.out.trans (hb13.mono HB.out.size)
  clear HB
  have HB := hid hb13
  clear hb13
  go_wp2_with fail
  refine (number_is [48, 48, 55] 7 7 0 _ (by decide) (by rfl) rfl).mono ?_
  rintro e w14 ⟨rfl, hb14⟩
  replace hb14 := HB.out.trans (hb14.mono HB.out.size)
  clear HB
  have HB := hid hb14
  clear hb14
  go_wp2_with fail
  refine (number_is [49, 56, 52, 52, 54, 55, 52, 52, 48, 55, 51, 55, 48, 57, 53, 53, 49, 54, 49, 53] 18446744073709551615 18446744073709551615 0 _ (by decide) (by rfl) rfl).mono ?_
  rintro e w15 ⟨rfl, hb15⟩
  replace hb15 := HB.out.trans (hb15.mono HB.out.size)
  clear HB
  have HB := hid hb15
  clear hb15
  go_wp2_with fail
  refine (number_is [49, 56, 52, 52, 54, 55, 52, 52, 48, 55, 51, 55, 48, 57, 53, 53, 49, 54, 49, 54] 0 0 3 _ (by decide) (by rfl) rfl).mono ?_
  rintro e w16 ⟨rfl, hb16⟩
  replace hb16 := HB.out.trans (hb16.mono HB.out.size)
  clear HB
  have HB := hid hb16
  clear hb16
  go_wp2_with fail
  refine (number_is [] 0 0 4 _ (by decide) (by rfl) rfl).mono ?_
  rintro e w17 ⟨rfl, hb17⟩
  replace hb17 := HB.out.trans (hb17.mono HB.out.size)
  clear HB
  have HB := hid hb17
  clear hb17
  go_wp2_with fail
  refine ((show Calls Tryd.prog 13 #[.string ⟨#[48]⟩, .int .i64 21] w17 fun e w' => e = .returned (.string ⟨([48, 48, 48, 48, 48, 48, 48, 48, 48, 48, 48, 48, 48, 48, 48, 48, 48, 48, 48, 48, 48] : Bs).toArray⟩) ∧ Below w17.heap.size w17 w' from Tryd.strings_Repeat ⟨#[48]⟩ 21 w17 (by decide) (by decide))).mono ?_
  rintro e w18 ⟨rfl, hb18⟩
  replace hb18 := HB.out.trans (hb18.mono HB.out.size)
  clear HB
  have HB := hid hb18
  clear hb18
  go_wp2_with fail
  refine (number_is [48, 48, 48, 48, 48, 48, 48, 48, 48, 48, 48, 48, 48, 48, 48, 48, 48, 48, 48, 48, 48] 0 0 4 _ (by decide) (by rfl) rfl).mono ?_
  rintro e w19 ⟨rfl, hb19⟩
  replace hb19 := HB.out.trans (hb19.mono HB.out.size)
  clear HB
  have HB := hid hb19
  clear hb19
  go_wp2
  go_ret
  exact ⟨rfl, HB.out⟩

end Go.Proofs.YtgldgkaigomceaaDoor
