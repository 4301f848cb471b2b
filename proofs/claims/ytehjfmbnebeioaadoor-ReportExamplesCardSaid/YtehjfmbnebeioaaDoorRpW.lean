/-
  The walks of package report's Word, and of the reference's.
-/
import Derived.Test.YtehjfmbnebeioaaDoorSL
import Derived.Test.YtehjfmbnebeioaaDoorRpP
import Derived.Test.YtehjfmbnebeioaaDoorFmt
import Derived.Lib.AppendIntMem
import Derived.Laws.EntriesVeiled
namespace Go.Proofs.YtehjfmbnebeioaaDoor
set_option linter.unusedSimpArgs false
set_option linter.unusedVariables false
open Go.RowKit Go.Shelf
attribute [local go_sem] Oper.semAt_some

/-- The tables that the laws' rows list. -/
structure Tabs (w : World) : Prop where
  reason : ∀ i, i < 5 → w.cell? ⟨0, i, none⟩ = some (.string ⟨(wReason i).toArray⟩)
  err : ∀ i, i < 11 → w.cell? ⟨1, i, none⟩ = some (.string ⟨(wErr i).toArray⟩)
  pow : Lib.TabIs Tryd.prog w "internal/strconv.uint64pow10" .u64 Lib.pow10Tab
theorem cell_size {w : World} {b i : Nat} {v : Value} (h : w.cell? ⟨b, i, none⟩ = some v) : b < w.heap.size := by
  rcases Nat.lt_or_ge b w.heap.size with h1 | h1
  · exact h1
  · simp [World.cell?, Array.getElem?_eq_none h1] at h
theorem tab_below {B : Nat} {w w' : World} (hb : Below B w w') (hB : w.heap.size ≤ B) {name : String} {k : IntKind} {zs : List Int} (h : Lib.TabIs Tryd.prog w name k zs) : Lib.TabIs Tryd.prog w' name k zs := by
  unfold Lib.TabIs World.var? at *
  cases hg : Tryd.prog.globalNamed name with
  | none => simp [hg] at h
  | some g =>
    simp only [hg, Option.bind_some] at h ⊢
    have hlt : g < w.heap.size := by
      rcases Nat.lt_or_ge g w.heap.size with h' | h'
      · exact h'
      · rw [Array.getElem?_eq_none h'] at h; simp at h
    rw [hb.block g (by omega)]
    exact h
theorem Tabs.below {w w' : World} (h : Tabs w) (hb : Below w.heap.size w w') : Tabs w' :=
  ⟨fun i hi => (hb.cell (p := ⟨_, i, none⟩) (cell_size (h.reason i hi))).trans (h.reason i hi), fun i hi => (hb.cell (p := ⟨_, i, none⟩) (cell_size (h.err i hi))).trans (h.err i hi), tab_below hb (Nat.le_refl _) h.pow⟩

def kindsV : Value := .agg #[.string ⟨wSecure.toArray⟩, .func (.func 37) #[] #[], .string ⟨wLeak.toArray⟩, .func (.func 38) #[] #[], .string ⟨wInc.toArray⟩, .func (.func 37) #[] #[], .string ⟨wReject.toArray⟩, .func (.func 39) #[] #[]]
set_option maxRecDepth 100000 in
theorem kinds_any (w : World) : Calls Tryd.prog 24 #[] w fun e w' => e = .returned kindsV ∧ Below w.heap.size w w' := by
  go_enter Tryd.func24, Tryd.ntmps24
  go_wp2
  refine bodyPost_ret (v := kindsV) (by simp [results, Tryd.results24, go_sem, kindsV, wSecure, wLeak, wInc, wReject]) rfl ?_
  exact ⟨rfl, (Below.refl _ _).alloc (Nat.le_refl _) _⟩

/-- What a word comes to. -/
def WordPost (k r : Nat) (w : World) (e : Ending) (w' : World) : Prop := e = .returned (.tuple #[.string ⟨(wordR k r).1.toArray⟩, .int .i64 (wordR k r).2]) ∧ Below w.heap.size w w'
theorem word_ret {k r : Nat} {l : By} {c : Int} {e : Ending} (h : wordR k r = (l, c)) (he : e = .returned (.tuple #[.string ⟨l.toArray⟩, .int .i64 c])) : e = .returned (.tuple #[.string ⟨(wordR k r).1.toArray⟩, .int .i64 (wordR k r).2]) := by rw [h]; exact he

set_option maxRecDepth 100000 in
set_option maxHeartbeats 1000000 in
theorem word_big (k r : Nat) (w : World) (h : 3 < k) (hk : k ≤ 255) : Calls Tryd.prog 9 #[.int .u8 (k : Int), .int .u8 (r : Int)] w (WordPost k r w) := by
  have HW := hid (show wordR k r = ([], 3) from by unfold wordR; rw [if_pos h])
  have a1 : decide (3 < (k : Int)) = true := by simp; omega
  have a2 : 3 < k := h
  go_enter Tryd.func9, Tryd.ntmps9
  go_wp2
  go_ret2
  exact ⟨word_ret HW.out rfl, Below.refl _ _⟩

set_option maxRecDepth 100000 in
set_option maxHeartbeats 1000000 in
theorem word_k0  (w : World)  : Calls Tryd.prog 9 #[.int .u8 0, .int .u8 0] w (WordPost 0 0 w) := by
  have HW := hid (show wordR 0 0 = (wSecure, 0) from rfl)
  have hix : ∀ w, (Instr.index 55 kindsV (.int .u8 0)).run Tryd.prog w = .ok (.agg #[.string ⟨wSecure.toArray⟩, .func (.func 37) #[] #[]]) w := fun _ => by kernel_rfl
  have hfl : ∀ w, (Instr.field 54 (.agg #[.string ⟨wSecure.toArray⟩, .func (.func 37) #[] #[]]) 0).run Tryd.prog w = .ok (.string ⟨wSecure.toArray⟩) w := fun _ => by kernel_rfl
  unfold kindsV at hix
  unfold wSecure wLeak wInc wReject at hix
  unfold wSecure at hfl
  go_enter Tryd.func9, Tryd.ntmps9
  go_wp2_with (go_at_call 24; refine (kinds_any _).mono ?_; unfold kindsV wSecure wLeak wInc wReject; rintro e w1 ⟨rfl, hb1⟩)
  go_ret2
  exact ⟨word_ret HW.out rfl, hb1⟩

set_option maxRecDepth 100000 in
set_option maxHeartbeats 1000000 in
theorem word_n0 (r : Nat) (w : World) (h : r ≠ 0) (hr : r ≤ 255) : Calls Tryd.prog 9 #[.int .u8 0, .int .u8 (r : Int)] w (WordPost 0 r w) := by
  have HW := hid (show wordR 0 r = ([], 2) from by unfold wordR; rw [if_neg (by omega), if_pos ⟨by omega, h⟩])
  have a1 : ((r : Int) != 0) = true := by rw [bne_iff_ne]; omega
  have a2 : ¬ r = 0 := h
  go_enter Tryd.func9, Tryd.ntmps9
  go_wp2
  go_ret2
  exact ⟨word_ret HW.out rfl, Below.refl _ _⟩

set_option maxRecDepth 100000 in
set_option maxHeartbeats 1000000 in
theorem word_k1  (w : World)  : Calls Tryd.prog 9 #[.int .u8 1, .int .u8 0] w (WordPost 1 0 w) := by
  have HW := hid (show wordR 1 0 = (wLeak, 0) from rfl)
  have hix : ∀ w, (Instr.index 55 kindsV (.int .u8 1)).run Tryd.prog w = .ok (.agg #[.string ⟨wLeak.toArray⟩, .func (.func 38) #[] #[]]) w := fun _ => by kernel_rfl
  have hfl : ∀ w, (Instr.field 54 (.agg #[.string ⟨wLeak.toArray⟩, .func (.func 38) #[] #[]]) 0).run Tryd.prog w = .ok (.string ⟨wLeak.toArray⟩) w := fun _ => by kernel_rfl
  unfold kindsV at hix
  unfold wSecure wLeak wInc wReject at hix
  unfold wLeak at hfl
  go_enter Tryd.func9, Tryd.ntmps9
  go_wp2_with (go_at_call 24; refine (kinds_any _).mono ?_; unfold kindsV wSecure wLeak wInc wReject; rintro e w1 ⟨rfl, hb1⟩)
  go_ret2
  exact ⟨word_ret HW.out rfl, hb1⟩

set_option maxRecDepth 100000 in
set_option maxHeartbeats 1000000 in
theorem word_n1 (r : Nat) (w : World) (h : r ≠ 0) (hr : r ≤ 255) : Calls Tryd.prog 9 #[.int .u8 1, .int .u8 (r : Int)] w (WordPost 1 r w) := by
  have HW := hid (show wordR 1 r = ([], 2) from by unfold wordR; rw [if_neg (by omega), if_pos ⟨by omega, h⟩])
  have a1 : ((r : Int) != 0) = true := by rw [bne_iff_ne]; omega
  have a2 : ¬ r = 0 := h
  go_enter Tryd.func9, Tryd.ntmps9
  go_wp2
  go_ret2
  exact ⟨word_ret HW.out rfl, Below.refl _ _⟩

set_option maxRecDepth 100000 in
set_option maxHeartbeats 1000000 in
theorem word_k3  (w : World)  : Calls Tryd.prog 9 #[.int .u8 3, .int .u8 0] w (WordPost 3 0 w) := by
  have HW := hid (show wordR 3 0 = (wReject, 0) from rfl)
  have hix : ∀ w, (Instr.index 55 kindsV (.int .u8 3)).run Tryd.prog w = .ok (.agg #[.string ⟨wReject.toArray⟩, .func (.func 39) #[] #[]]) w := fun _ => by kernel_rfl
  have hfl : ∀ w, (Instr.field 54 (.agg #[.string ⟨wReject.toArray⟩, .func (.func 39) #[] #[]]) 0).run Tryd.prog w = .ok (.string ⟨wReject.toArray⟩) w := fun _ => by kernel_rfl
  unfold kindsV at hix
  unfold wSecure wLeak wInc wReject at hix
  unfold wReject at hfl
  go_enter Tryd.func9, Tryd.ntmps9
  go_wp2_with (go_at_call 24; refine (kinds_any _).mono ?_; unfold kindsV wSecure wLeak wInc wReject; rintro e w1 ⟨rfl, hb1⟩)
  go_ret2
  exact ⟨word_ret HW.out rfl, hb1⟩

set_option maxRecDepth 100000 in
set_option maxHeartbeats 1000000 in
theorem word_n3 (r : Nat) (w : World) (h : r ≠ 0) (hr : r ≤ 255) : Calls Tryd.prog 9 #[.int .u8 3, .int .u8 (r : Int)] w (WordPost 3 r w) := by
  have HW := hid (show wordR 3 r = ([], 2) from by unfold wordR; rw [if_neg (by omega), if_pos ⟨by omega, h⟩])
  have a1 : ((r : Int) != 0) = true := by rw [bne_iff_ne]; omega
  have a2 : ¬ r = 0 := h
  go_enter Tryd.func9, Tryd.ntmps9
  go_wp2
  go_ret2
  exact ⟨word_ret HW.out rfl, Below.refl _ _⟩

set_option maxRecDepth 100000 in
set_option maxHeartbeats 1000000 in
theorem word_i0  (w : World)  : Calls Tryd.prog 9 #[.int .u8 2, .int .u8 0] w (WordPost 2 0 w) := by
  have HW := hid (show wordR 2 0 = ([], 3) from rfl)
  go_enter Tryd.func9, Tryd.ntmps9
  go_wp2
  go_ret2
  exact ⟨word_ret HW.out rfl, Below.refl _ _⟩

set_option maxRecDepth 100000 in
set_option maxHeartbeats 1000000 in
theorem word_ib (r : Nat) (w : World) (h : 4 < r) (hr : r ≤ 255) : Calls Tryd.prog 9 #[.int .u8 2, .int .u8 (r : Int)] w (WordPost 2 r w) := by
  have HW := hid (show wordR 2 r = ([], 3) from by unfold wordR; rw [if_neg (by omega), if_neg (by omega), if_neg (by omega), if_pos (.inr h)])
  have a1 : decide ((r : Int) < 1) = false := by simp; omega
  have a2 : decide (4 < (r : Int)) = true := by simp; omega
  have a3 : 4 < r := h
  have a4 : ¬ r = 0 := by omega
  go_enter Tryd.func9, Tryd.ntmps9
  go_wp2
  go_ret2
  exact ⟨word_ret HW.out rfl, Below.refl _ _⟩

set_option maxRecDepth 100000 in
set_option maxHeartbeats 1000000 in
theorem word_i1  (w : World) (ht : Tabs w) : Calls Tryd.prog 9 #[.int .u8 2, .int .u8 1] w (WordPost 2 1 w) := by
  have HW := hid (show wordR 2 1 = (wInc ++ 32 :: wReason 1, 0) from rfl)
  have hc := ht.reason 1 (by omega)
  go_enter Tryd.func9, Tryd.ntmps9
  go_wp2
  go_ret2
  exact ⟨word_ret HW.out rfl, Below.refl _ _⟩

set_option maxRecDepth 100000 in
set_option maxHeartbeats 1000000 in
theorem word_i2  (w : World) (ht : Tabs w) : Calls Tryd.prog 9 #[.int .u8 2, .int .u8 2] w (WordPost 2 2 w) := by
  have HW := hid (show wordR 2 2 = (wInc ++ 32 :: wReason 2, 0) from rfl)
  have hc := ht.reason 2 (by omega)
  go_enter Tryd.func9, Tryd.ntmps9
  go_wp2
  go_ret2
  exact ⟨word_ret HW.out rfl, Below.refl _ _⟩

set_option maxRecDepth 100000 in
set_option maxHeartbeats 1000000 in
theorem word_i3  (w : World) (ht : Tabs w) : Calls Tryd.prog 9 #[.int .u8 2, .int .u8 3] w (WordPost 2 3 w) := by
  have HW := hid (show wordR 2 3 = (wInc ++ 32 :: wReason 3, 0) from rfl)
  have hc := ht.reason 3 (by omega)
  go_enter Tryd.func9, Tryd.ntmps9
  go_wp2
  go_ret2
  exact ⟨word_ret HW.out rfl, Below.refl _ _⟩

set_option maxRecDepth 100000 in
set_option maxHeartbeats 1000000 in
theorem word_i4  (w : World) (ht : Tabs w) : Calls Tryd.prog 9 #[.int .u8 2, .int .u8 4] w (WordPost 2 4 w) := by
  have HW := hid (show wordR 2 4 = (wInc ++ 32 :: wReason 4, 0) from rfl)
  have hc := ht.reason 4 (by omega)
  go_enter Tryd.func9, Tryd.ntmps9
  go_wp2
  go_ret2
  exact ⟨word_ret HW.out rfl, Below.refl _ _⟩

theorem word_any (k r : Nat) (w : World) (hk : k ≤ 255) (hr : r ≤ 255) (ht : Tabs w) : Calls Tryd.prog 9 #[.int .u8 (k : Int), .int .u8 (r : Int)] w (WordPost k r w) := by
  by_cases h3 : 3 < k
  · exact word_big k r w h3 hk
  · have hk4 : k = 0 ∨ k = 1 ∨ k = 2 ∨ k = 3 := by omega
    rcases hk4 with rfl | rfl | rfl | rfl
    · by_cases h0 : r = 0
      · subst h0; exact word_k0 w
      · exact word_n0 r w h0 hr
    · by_cases h0 : r = 0
      · subst h0; exact word_k1 w
      · exact word_n1 r w h0 hr
    · by_cases h4 : 4 < r
      · exact word_ib r w h4 hr
      · have hr5 : r = 0 ∨ r = 1 ∨ r = 2 ∨ r = 3 ∨ r = 4 := by omega
        rcases hr5 with rfl | rfl | rfl | rfl | rfl
        · exact word_i0 w
        · exact word_i1 w ht
        · exact word_i2 w ht
        · exact word_i3 w ht
        · exact word_i4 w ht
    · by_cases h0 : r = 0
      · subst h0; exact word_k3 w
      · exact word_n3 r w h0 hr

theorem rw_below (w : World) : Below w.heap.size w ((w.alloc (.cells #[.string ⟨#[83, 69, 67, 85, 82, 69]⟩, .string ⟨#[76, 69, 65, 75]⟩, .string ⟨#[73, 78, 67, 79, 78, 67, 76, 85, 83, 73, 86, 69]⟩, .string ⟨#[82, 69, 74, 69, 67, 84]⟩] 9)).alloc (.cells #[.string ⟨#[]⟩, .string ⟨#[112, 97, 116, 104, 115]⟩, .string ⟨#[110, 111, 100, 101, 115]⟩, .string ⟨#[99, 111, 110, 102, 108, 105, 99, 116, 115]⟩, .string ⟨#[102, 117, 101, 108]⟩] 9)) := ((Below.refl _ _).alloc (Nat.le_refl _) _).alloc (by simp only [World.size_alloc]; omega) _
theorem below_drewN9 {B : Nat} {a w : World} (h : Below B a w) (n : Nat) : Below B a (w.drewN n) := ⟨h.os, h.tape, h.output, h.size, h.block⟩

set_option maxRecDepth 100000 in
set_option maxHeartbeats 1000000 in
theorem rword_big (k r : Nat) (w : World) (h : 3 < k) (hk : k ≤ 255) : Calls Tryd.prog 10 #[.int .u8 (k : Int), .int .u8 (r : Int)] w (WordPost k r w) := by
  have HW := hid (show wordR k r = ([], 3) from by unfold wordR; rw [if_pos h])
  have a1 : decide (3 < (k : Int)) = true := by simp; omega
  have a2 : 3 < k := h
  go_enter Tryd.func10, Tryd.ntmps10
  go_wp2
  go_ret2
  exact ⟨word_ret HW.out rfl, rw_below w⟩

set_option maxRecDepth 100000 in
set_option maxHeartbeats 1000000 in
theorem rword_k0  (w : World)  : Calls Tryd.prog 10 #[.int .u8 0, .int .u8 0] w (WordPost 0 0 w) := by
  have HW := hid (show wordR 0 0 = (wSecure, 0) from rfl)
  go_enter Tryd.func10, Tryd.ntmps10
  go_wp2
  go_ret2
  exact ⟨word_ret HW.out rfl, rw_below w⟩

set_option maxRecDepth 100000 in
set_option maxHeartbeats 1000000 in
theorem rword_n0 (r : Nat) (w : World) (h : r ≠ 0) (hr : r ≤ 255) : Calls Tryd.prog 10 #[.int .u8 0, .int .u8 (r : Int)] w (WordPost 0 r w) := by
  have HW := hid (show wordR 0 r = ([], 2) from by unfold wordR; rw [if_neg (by omega), if_pos ⟨by omega, h⟩])
  have a1 : ((r : Int) != 0) = true := by rw [bne_iff_ne]; omega
  have a2 : ¬ r = 0 := h
  go_enter Tryd.func10, Tryd.ntmps10
  go_wp2
  go_ret2
  exact ⟨word_ret HW.out rfl, rw_below w⟩

set_option maxRecDepth 100000 in
set_option maxHeartbeats 1000000 in
theorem rword_k1  (w : World)  : Calls Tryd.prog 10 #[.int .u8 1, .int .u8 0] w (WordPost 1 0 w) := by
  have HW := hid (show wordR 1 0 = (wLeak, 0) from rfl)
  go_enter Tryd.func10, Tryd.ntmps10
  go_wp2
  go_ret2
  exact ⟨word_ret HW.out rfl, rw_below w⟩

set_option maxRecDepth 100000 in
set_option maxHeartbeats 1000000 in
theorem rword_n1 (r : Nat) (w : World) (h : r ≠ 0) (hr : r ≤ 255) : Calls Tryd.prog 10 #[.int .u8 1, .int .u8 (r : Int)] w (WordPost 1 r w) := by
  have HW := hid (show wordR 1 r = ([], 2) from by unfold wordR; rw [if_neg (by omega), if_pos ⟨by omega, h⟩])
  have a1 : ((r : Int) != 0) = true := by rw [bne_iff_ne]; omega
  have a2 : ¬ r = 0 := h
  go_enter Tryd.func10, Tryd.ntmps10
  go_wp2
  go_ret2
  exact ⟨word_ret HW.out rfl, rw_below w⟩

set_option maxRecDepth 100000 in
set_option maxHeartbeats 1000000 in
theorem rword_k3  (w : World)  : Calls Tryd.prog 10 #[.int .u8 3, .int .u8 0] w (WordPost 3 0 w) := by
  have HW := hid (show wordR 3 0 = (wReject, 0) from rfl)
  go_enter Tryd.func10, Tryd.ntmps10
  go_wp2
  go_ret2
  exact ⟨word_ret HW.out rfl, rw_below w⟩

set_option maxRecDepth 100000 in
set_option maxHeartbeats 1000000 in
theorem rword_n3 (r : Nat) (w : World) (h : r ≠ 0) (hr : r ≤ 255) : Calls Tryd.prog 10 #[.int .u8 3, .int .u8 (r : Int)] w (WordPost 3 r w) := by
  have HW := hid (show wordR 3 r = ([], 2) from by unfold wordR; rw [if_neg (by omega), if_pos ⟨by omega, h⟩])
  have a1 : ((r : Int) != 0) = true := by rw [bne_iff_ne]; omega
  have a2 : ¬ r = 0 := h
  go_enter Tryd.func10, Tryd.ntmps10
  go_wp2
  go_ret2
  exact ⟨word_ret HW.out rfl, rw_below w⟩

set_option maxRecDepth 100000 in
set_option maxHeartbeats 1000000 in
theorem rword_i0  (w : World)  : Calls Tryd.prog 10 #[.int .u8 2, .int .u8 0] w (WordPost 2 0 w) := by
  have HW := hid (show wordR 2 0 = ([], 3) from rfl)
  go_enter Tryd.func10, Tryd.ntmps10
  go_wp2
  go_ret2
  exact ⟨word_ret HW.out rfl, rw_below w⟩

set_option maxRecDepth 100000 in
set_option maxHeartbeats 1000000 in
theorem rword_ib (r : Nat) (w : World) (h : 4 < r) (hr : r ≤ 255) : Calls Tryd.prog 10 #[.int .u8 2, .int .u8 (r : Int)] w (WordPost 2 r w) := by
  have HW := hid (show wordR 2 r = ([], 3) from by unfold wordR; rw [if_neg (by omega), if_neg (by omega), if_neg (by omega), if_pos (.inr h)])
  have a1 : decide ((r : Int) < 1) = false := by simp; omega
  have a2 : decide (4 < (r : Int)) = true := by simp; omega
  have a3 : 4 < r := h
  have a4 : ¬ r = 0 := by omega
  go_enter Tryd.func10, Tryd.ntmps10
  go_wp2
  go_ret2
  exact ⟨word_ret HW.out rfl, rw_below w⟩

set_option maxRecDepth 100000 in
set_option maxHeartbeats 1000000 in
theorem rword_i1  (w : World)  : Calls Tryd.prog 10 #[.int .u8 2, .int .u8 1] w (WordPost 2 1 w) := by
  have HW := hid (show wordR 2 1 = (wInc ++ 32 :: wReason 1, 0) from rfl)
  go_enter Tryd.func10, Tryd.ntmps10
  go_wp2_with fail
  go_quiet (fail)
  go_wp2
  go_ret2
  exact ⟨word_ret HW.out rfl, below_drewN9 (rw_below w) _⟩

set_option maxRecDepth 100000 in
set_option maxHeartbeats 1000000 in
theorem rword_i2  (w : World)  : Calls Tryd.prog 10 #[.int .u8 2, .int .u8 2] w (WordPost 2 2 w) := by
  have HW := hid (show wordR 2 2 = (wInc ++ 32 :: wReason 2, 0) from rfl)
  go_enter Tryd.func10, Tryd.ntmps10
  go_wp2_with fail
  go_quiet (fail)
  go_wp2
  go_ret2
  exact ⟨word_ret HW.out rfl, below_drewN9 (rw_below w) _⟩

set_option maxRecDepth 100000 in
set_option maxHeartbeats 1000000 in
theorem rword_i3  (w : World)  : Calls Tryd.prog 10 #[.int .u8 2, .int .u8 3] w (WordPost 2 3 w) := by
  have HW := hid (show wordR 2 3 = (wInc ++ 32 :: wReason 3, 0) from rfl)
  go_enter Tryd.func10, Tryd.ntmps10
  go_wp2_with fail
  go_quiet (fail)
  go_wp2
  go_ret2
  exact ⟨word_ret HW.out rfl, below_drewN9 (rw_below w) _⟩

set_option maxRecDepth 100000 in
set_option maxHeartbeats 1000000 in
theorem rword_i4  (w : World)  : Calls Tryd.prog 10 #[.int .u8 2, .int .u8 4] w (WordPost 2 4 w) := by
  have HW := hid (show wordR 2 4 = (wInc ++ 32 :: wReason 4, 0) from rfl)
  go_enter Tryd.func10, Tryd.ntmps10
  go_wp2_with fail
  go_quiet (fail)
  go_wp2
  go_ret2
  exact ⟨word_ret HW.out rfl, below_drewN9 (rw_below w) _⟩
theorem rword_any (k r : Nat) (w : World) (hk : k ≤ 255) (hr : r ≤ 255) : Calls Tryd.prog 10 #[.int .u8 (k : Int), .int .u8 (r : Int)] w (WordPost k r w) := by
  by_cases h3 : 3 < k
  · exact rword_big k r w h3 hk
  · have hk4 : k = 0 ∨ k = 1 ∨ k = 2 ∨ k = 3 := by omega
    rcases hk4 with rfl | rfl | rfl | rfl
    · by_cases h0 : r = 0
      · subst h0; exact rword_k0 w
      · exact rword_n0 r w h0 hr
    · by_cases h0 : r = 0
      · subst h0; exact rword_k1 w
      · exact rword_n1 r w h0 hr
    · by_cases h4 : 4 < r
      · exact rword_ib r w h4 hr
      · have hr5 : r = 0 ∨ r = 1 ∨ r = 2 ∨ r = 3 ∨ r = 4 := by omega
        rcases hr5 with rfl | rfl | rfl | rfl | rfl
        · exact rword_i0 w
        · exact rword_i1 w
        · exact rword_i2 w
        · exact rword_i3 w
        · exact rword_i4 w
    · by_cases h0 : r = 0
      · subst h0; exact rword_k3 w
      · exact rword_n3 r w h0 hr

end Go.Proofs.YtehjfmbnebeioaaDoor
