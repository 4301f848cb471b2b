/-
  The walks of law 39's lines and fails.
-/
import Derived.Test.YtehjfmbnebeioaaDoorRpN
namespace Go.Proofs.YtehjfmbnebeioaaDoor
set_option linter.unusedSimpArgs false
set_option linter.unusedVariables false
open Go.RowKit Go.Shelf
attribute [local go_sem] Oper.semAt_some

def lvLow : By := [108, 111, 119]
def lvHigh : By := [104, 105, 103, 104]
def chPub : By := [112, 117, 98]
def chSec : By := [115, 101, 99]
theorem strs_two {R : Nat → Prop} (w : World) (a b : By) (hR : R w.heap.size) : Strs R (w.alloc (.cells #[.string ⟨a.toArray⟩, .string ⟨b.toArray⟩] 9)) (.slice (some ⟨w.heap.size, 0, none⟩) 2 2) [a, b] :=
  ⟨_, 2, rfl, Nat.le_refl _, by unfold maxLen; omega, by simp, RowR.lit w [sV a, sV b] 9 hR⟩
theorem NLL.grow {R R' : Nat → Prop} {w W : World} {v : Value} {l : List (List Nat)} (h : NLL R w v l) (hb : Below w.heap.size w W) (hR : ∀ i, R i → i < w.heap.size) (h' : ∀ i, i < w.heap.size → R' i) : NLL R' W v l := h.keep fun i hi => ⟨h' i (hR i hi), hb.block i (hR i hi)⟩
theorem Strs.grow {R R' : Nat → Prop} {w W : World} {v : Value} {l : List By} (h : Strs R w v l) (hb : Below w.heap.size w W) (hR : ∀ i, R i → i < w.heap.size) (h' : ∀ i, i < w.heap.size → R' i) : Strs R' W v l := h.keep fun i hi => ⟨h' i (hR i hi), hb.block i (hR i hi)⟩
theorem below_drewNR {B : Nat} {w W : World} (h : Below B w W) (n : Nat) : Below B w (W.drewN n) := ⟨h.os, h.tape, h.output, h.size, h.block⟩
/-- The call of report.Lines that both make. -/
theorem law_call (k r : Nat) (lv : Int) (A B : List (List Nat)) (imp pol : Bool) (ln co er : Int) (pA pB : Option Addr) (cA cB : Nat) (R : Nat → Prop) (w : World) (hv : VdOk (⟨k, r, lv, A, B, imp, pol, ln, co, er⟩ : Vd)) (hA : NLL R w (.slice pA A.length cA) A) (hB : NLL R w (.slice pB B.length cB) B) (hR : ∀ i, R i → i < w.heap.size) (ht : Tabs w) :
    Calls Tryd.prog 15 #[.agg #[.int .u8 (k : Int), .int .u8 (r : Int), .int .i64 lv, .slice pA A.length cA, .slice pB B.length cB, .bool imp, .bool pol, .int .i64 ln, .int .i64 co, .int .i64 er], .slice (some ⟨w.heap.size + 1, 0, none⟩) 2 2, .slice (some ⟨w.heap.size + 1 + 1, 0, none⟩) 2 2] (((w.alloc (.cells #[.int .u8 (k : Int), .int .u8 (r : Int), .int .i64 lv, .slice pA A.length cA, .slice pB B.length cB, .bool imp, .bool pol, .int .i64 ln, .int .i64 co, .int .i64 er] 35)).alloc (.cells #[.string ⟨#[108, 111, 119]⟩, .string ⟨#[104, 105, 103, 104]⟩] 9)).alloc (.cells #[.string ⟨#[112, 117, 98]⟩, .string ⟨#[115, 101, 99]⟩] 9)) fun e w' => Below w.heap.size w w' ∧ ∃ p c, e = .returned (.tuple #[.slice p (vlinesR (⟨k, r, lv, A, B, imp, pol, ln, co, er⟩ : Vd) [lvLow, lvHigh] [chPub, chSec]).1.length c, .int .i64 (vlinesR (⟨k, r, lv, A, B, imp, pol, ln, co, er⟩ : Vd) [lvLow, lvHigh] [chPub, chSec]).2]) ∧ Strs (fun i => w.heap.size ≤ i ∧ i < w'.heap.size) w' (.slice p (vlinesR (⟨k, r, lv, A, B, imp, pol, ln, co, er⟩ : Vd) [lvLow, lvHigh] [chPub, chSec]).1.length c) (vlinesR (⟨k, r, lv, A, B, imp, pol, ln, co, er⟩ : Vd) [lvLow, lvHigh] [chPub, chSec]).1 := by
  obtain ⟨W0, h0⟩ : ∃ W, w.alloc (.cells #[.int .u8 (k : Int), .int .u8 (r : Int), .int .i64 lv, .slice pA A.length cA, .slice pB B.length cB, .bool imp, .bool pol, .int .i64 ln, .int .i64 co, .int .i64 er] 35) = W := ⟨_, rfl⟩
  have b0 : Below w.heap.size w W0 := by rw [← h0]; exact (Below.refl _ _).alloc (Nat.le_refl _) _
  have z0 : W0.heap.size = w.heap.size + 1 := by rw [← h0, World.size_alloc]
  rw [h0]
  have s1 := strs_two (R := fun i => i < w.heap.size + 3) W0 lvLow lvHigh (by omega)
  obtain ⟨W1, h1⟩ : ∃ W, W0.alloc (.cells #[.string ⟨#[108, 111, 119]⟩, .string ⟨#[104, 105, 103, 104]⟩] 9) = W := ⟨_, rfl⟩
  have b1 : Below w.heap.size w W1 := by rw [← h1]; exact b0.alloc b0.size _
  have z1 : W1.heap.size = w.heap.size + 1 + 1 := by rw [← h1, World.size_alloc, z0]
  have s1 : Strs (fun i => i < w.heap.size + 3) W1 (.slice (some ⟨w.heap.size + 1, 0, none⟩) 2 2) [lvLow, lvHigh] := by rw [← h1, ← z0]; exact s1
  rw [h1]
  have s2 : Strs (fun i => i < w.heap.size + 3) (W1.alloc (.cells #[.string ⟨#[112, 117, 98]⟩, .string ⟨#[115, 101, 99]⟩] 9)) (.slice (some ⟨w.heap.size + 1 + 1, 0, none⟩) 2 2) [chPub, chSec] := by rw [← z1]; exact strs_two W1 chPub chSec (by omega)
  have b2 : Below w.heap.size w (W1.alloc (.cells #[.string ⟨#[112, 117, 98]⟩, .string ⟨#[115, 101, 99]⟩] 9)) := b1.alloc b1.size _
  have z2 : (W1.alloc (.cells #[.string ⟨#[112, 117, 98]⟩, .string ⟨#[115, 101, 99]⟩] 9)).heap.size = w.heap.size + 3 := by rw [World.size_alloc, z1]
  have s1' : Strs (fun i => i < w.heap.size + 3) (W1.alloc (.cells #[.string ⟨#[112, 117, 98]⟩, .string ⟨#[115, 101, 99]⟩] 9)) (.slice (some ⟨w.heap.size + 1, 0, none⟩) 2 2) [lvLow, lvHigh] := by
    obtain ⟨p, c, e, g1, g2, g3, hr⟩ := strs_two (R := fun i => i = W0.heap.size) W0 lvLow lvHigh rfl
    have s0 : Strs (fun i => i = W0.heap.size) W1 (.slice (some ⟨w.heap.size + 1, 0, none⟩) 2 2) [lvLow, lvHigh] := by rw [← h1, ← z0]; exact strs_two W0 lvLow lvHigh rfl
    exact s0.keep fun i hi => ⟨by have : i = W0.heap.size := hi; omega, by have : i = W0.heap.size := hi; rw [heap_al, if_neg (by omega)]⟩
  refine (lines_any (⟨k, r, lv, A, B, imp, pol, ln, co, er⟩ : Vd) pA pB cA cB [lvLow, lvHigh] [chPub, chSec] _ _ (fun i => i < w.heap.size + 3) _ hv s1' s2 (hA.grow b2 hR fun i hi => by omega) (hB.grow b2 hR fun i hi => by omega) (fun i hi => by rw [z2]; exact hi) (by decide) (by decide) (by simp) (ht.below b2)).mono ?_
  rintro e w' ⟨hb, p, c, he, hs⟩
  refine ⟨b2.trans (hb.mono b2.size), p, c, he, hs.keep fun i hi => ⟨⟨by have := b2.size; omega, hi.2.size⟩, rfl⟩⟩

/-- Do the lines of a verdict come to these? -/
def linesB (v : Vd) (want : List By) : Bool := decide ((vlinesR v [lvLow, lvHigh] [chPub, chSec]).1 = want) && decide ((vlinesR v [lvLow, lvHigh] [chPub, chSec]).2 = 0)
def failsB (v : Vd) (code : Int) : Bool := decide ((vlinesR v [lvLow, lvHigh] [chPub, chSec]).1.length = 0) && decide ((vlinesR v [lvLow, lvHigh] [chPub, chSec]).2 = code)

set_option maxRecDepth 100000 in
set_option maxHeartbeats 2000000 in
theorem lawlines_any (k r : Nat) (lv : Int) (A B : List (List Nat)) (imp pol : Bool) (ln co er : Int) (pA pB : Option Addr) (cA cB : Nat) (want : List By) (vw : Value) (R : Nat → Prop) (w : World) (hv : VdOk (⟨k, r, lv, A, B, imp, pol, ln, co, er⟩ : Vd)) (hA : NLL R w (.slice pA A.length cA) A) (hB : NLL R w (.slice pB B.length cB) B) (hw : Strs R w vw want) (hR : ∀ i, R i → i < w.heap.size) (ht : Tabs w) :
    Calls Tryd.prog 25 #[.agg #[.int .u8 (k : Int), .int .u8 (r : Int), .int .i64 lv, .slice pA A.length cA, .slice pB B.length cB, .bool imp, .bool pol, .int .i64 ln, .int .i64 co, .int .i64 er], vw] w fun e w' => e = .returned (.bool (linesB (⟨k, r, lv, A, B, imp, pol, ln, co, er⟩ : Vd) want)) ∧ Below w.heap.size w w' := by
  have HC := hid (law_call k r lv A B imp pol ln co er pA pB cA cB R w hv hA hB hR ht)
  have HW := hid hw
  have HR := hid hR
  have HB0 := hid (show linesB (⟨k, r, lv, A, B, imp, pol, ln, co, er⟩ : Vd) want = (decide ((vlinesR (⟨k, r, lv, A, B, imp, pol, ln, co, er⟩ : Vd) [lvLow, lvHigh] [chPub, chSec]).1 = want) && decide ((vlinesR (⟨k, r, lv, A, B, imp, pol, ln, co, er⟩ : Vd) [lvLow, lvHigh] [chPub, chSec]).2 = 0)) from rfl)
  generalize linesB (⟨k, r, lv, A, B, imp, pol, ln, co, er⟩ : Vd) want = res at *
  generalize vlinesR (⟨k, r, lv, A, B, imp, pol, ln, co, er⟩ : Vd) [lvLow, lvHigh] [chPub, chSec] = q at *
  obtain ⟨l, c0⟩ := q
  clear hv hA hB hw hR ht
  by_cases h1 : l = want
  · have t1 := decide_eq_true h1
    have HD := hid t1
    by_cases h2 : c0 = 0
    · have hres : res = true := by rw [HB0.out]; simp [h1, h2]
      have a2 : (c0 == 0) = true := by rw [beq_iff_eq]; exact h2
      clear t1 h1
      go_enter Tryd.func25, Tryd.ntmps25
      have HRES := hid hres
      clear hres
      go_wp2_with (go_at_call 15; refine HC.out.mono ?_; rintro e w1 ⟨hb1, p1, c1, rfl, hs1⟩)
      have HS1 := hid hs1
      clear hs1
      have HW1 := hid (HW.out.grow (R' := fun i => i < w.heap.size) hb1 HR.out fun i hi => hi)
      go_wp2_with (go_at_call 17; refine (eqstrings_any _ _ _ _ _ _ _ HS1.out HW1.out).mono ?_; rw [HD.out]; rintro e w2 ⟨rfl, n2, rfl⟩)
      go_ret
      rw [HRES.out]
      exact ⟨rfl, below_drewNR hb1 _⟩
    · have hres : res = false := by rw [HB0.out]; simp [h2]
      have a2 : (c0 == 0) = false := by rw [beq_eq_false_iff_ne]; exact h2
      clear t1 h1
      go_enter Tryd.func25, Tryd.ntmps25
      have HRES := hid hres
      clear hres
      go_wp2_with (go_at_call 15; refine HC.out.mono ?_; rintro e w1 ⟨hb1, p1, c1, rfl, hs1⟩)
      have HS1 := hid hs1
      clear hs1
      have HW1 := hid (HW.out.grow (R' := fun i => i < w.heap.size) hb1 HR.out fun i hi => hi)
      go_wp2_with (go_at_call 17; refine (eqstrings_any _ _ _ _ _ _ _ HS1.out HW1.out).mono ?_; rw [HD.out]; rintro e w2 ⟨rfl, n2, rfl⟩)
      go_ret
      rw [HRES.out]
      exact ⟨rfl, below_drewNR hb1 _⟩
  · have t1 := decide_eq_false h1
    have HD := hid t1
    have hres : res = false := by rw [HB0.out]; simp [h1]
    clear t1 h1
    go_enter Tryd.func25, Tryd.ntmps25
    have HRES := hid hres
    clear hres
    go_wp2_with (go_at_call 15; refine HC.out.mono ?_; rintro e w1 ⟨hb1, p1, c1, rfl, hs1⟩)
    have HS1 := hid hs1
    clear hs1
    have HW1 := hid (HW.out.grow (R' := fun i => i < w.heap.size) hb1 HR.out fun i hi => hi)
    go_wp2_with (go_at_call 17; refine (eqstrings_any _ _ _ _ _ _ _ HS1.out HW1.out).mono ?_; rw [HD.out]; rintro e w2 ⟨rfl, n2, rfl⟩)
    go_ret
    rw [HRES.out]
    exact ⟨rfl, below_drewNR hb1 _⟩

set_option maxRecDepth 100000 in
set_option maxHeartbeats 2000000 in
theorem lawfails_any (k r : Nat) (lv : Int) (A B : List (List Nat)) (imp pol : Bool) (ln co er : Int) (pA pB : Option Addr) (cA cB : Nat) (code : Int) (R : Nat → Prop) (w : World) (hv : VdOk (⟨k, r, lv, A, B, imp, pol, ln, co, er⟩ : Vd)) (hA : NLL R w (.slice pA A.length cA) A) (hB : NLL R w (.slice pB B.length cB) B) (hR : ∀ i, R i → i < w.heap.size) (ht : Tabs w) :
    Calls Tryd.prog 19 #[.agg #[.int .u8 (k : Int), .int .u8 (r : Int), .int .i64 lv, .slice pA A.length cA, .slice pB B.length cB, .bool imp, .bool pol, .int .i64 ln, .int .i64 co, .int .i64 er], .int .i64 code] w fun e w' => e = .returned (.bool (failsB (⟨k, r, lv, A, B, imp, pol, ln, co, er⟩ : Vd) code)) ∧ Below w.heap.size w w' := by
  have HC := hid (law_call k r lv A B imp pol ln co er pA pB cA cB R w hv hA hB hR ht)
  have HB0 := hid (show failsB (⟨k, r, lv, A, B, imp, pol, ln, co, er⟩ : Vd) code = (decide ((vlinesR (⟨k, r, lv, A, B, imp, pol, ln, co, er⟩ : Vd) [lvLow, lvHigh] [chPub, chSec]).1.length = 0) && decide ((vlinesR (⟨k, r, lv, A, B, imp, pol, ln, co, er⟩ : Vd) [lvLow, lvHigh] [chPub, chSec]).2 = code)) from rfl)
  generalize failsB (⟨k, r, lv, A, B, imp, pol, ln, co, er⟩ : Vd) code = res at *
  generalize vlinesR (⟨k, r, lv, A, B, imp, pol, ln, co, er⟩ : Vd) [lvLow, lvHigh] [chPub, chSec] = q at *
  obtain ⟨l, c0⟩ := q
  clear hv hA hB hR ht
  by_cases h1 : l.length = 0
  · have a1 : ((l.length : Int) == 0) = true := by rw [beq_iff_eq]; omega
    by_cases h2 : c0 = code
    · have hres : res = true := by rw [HB0.out]; simp [h1, h2]
      have a2 : (c0 == code) = true := by rw [beq_iff_eq]; exact h2
      have HH := hid (And.intro h1 h2)
      clear h1 h2
      have HRES := hid hres
      clear hres
      go_enter Tryd.func19, Tryd.ntmps19
      go_wp2_with (go_at_call 15; refine HC.out.mono ?_; rintro e w1 ⟨hb1, p1, c1, rfl, hs1⟩)
      go_ret
      rw [HRES.out]
      exact ⟨rfl, hb1⟩
    · have hres : res = false := by rw [HB0.out]; simp [h2]
      have a2 : (c0 == code) = false := by rw [beq_eq_false_iff_ne]; exact h2
      have HH := hid (And.intro h1 h2)
      clear h1 h2
      have HRES := hid hres
      clear hres
      go_enter Tryd.func19, Tryd.ntmps19
      go_wp2_with (go_at_call 15; refine HC.out.mono ?_; rintro e w1 ⟨hb1, p1, c1, rfl, hs1⟩)
      go_ret
      rw [HRES.out]
      exact ⟨rfl, hb1⟩
  · have a1 : ((l.length : Int) == 0) = false := by rw [beq_eq_false_iff_ne]; omega
    have hres : res = false := by rw [HB0.out]; simp [h1]
    have HH := hid h1
    clear h1
    have HRES := hid hres
    clear hres
    go_enter Tryd.func19, Tryd.ntmps19
    go_wp2_with (go_at_call 15; refine HC.out.mono ?_; rintro e w1 ⟨hb1, p1, c1, rfl, hs1⟩)
    go_ret
    rw [HRES.out]
    exact ⟨rfl, hb1⟩

end Go.Proofs.YtehjfmbnebeioaaDoor
