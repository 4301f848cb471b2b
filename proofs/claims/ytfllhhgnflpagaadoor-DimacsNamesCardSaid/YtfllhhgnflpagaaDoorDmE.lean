/-
  Equality of lists of numbers (signed), and of lists of them.
-/
import Derived.Test.YtfllhhgnflpagaaDoorDmK
import Derived.Deep.QuietTactic
import Derived.BigQuiet
namespace Go.Proofs.YtfllhhgnflpagaaDoor
set_option linter.unusedSimpArgs false
set_option linter.unusedVariables false
open Go.RowKit Go.Shelf
attribute [local go_sem] Oper.semAt_some
theorem Ints.drewN {R : Nat → Prop} {w : World} {v : Value} {xs : List Int} (h : Ints R w v xs) (n : Nat) : Ints R (w.drewN n) v xs := Sl.keep h fun k hk => ⟨hk, rfl⟩
theorem int_neF {x y : Int} (h : x ≠ y) : (x != y) = true := by rw [bne_iff_ne]; exact h

set_option maxRecDepth 100000 in
set_option maxHeartbeats 2000000 in
theorem eqints_any (a b : List Int) (va vb : Value) (R R' : Nat → Prop) (w : World) (ha : Ints R w va a) (hb : Ints R' w vb b) :
    Calls Tryd.prog 43 #[va, vb] w fun e w' => e = .returned (.bool (decide (a = b))) ∧ ∃ n, w.drewN n = w' := by
  obtain ⟨pa, ca, rfl, ha1, ha2, ha3, hra⟩ := ha.op
  obtain ⟨pb, cb, rfl, hb1, hb2, hb3, hrb⟩ := hb.op
  clear ha hb
  obtain ⟨r, hr⟩ : ∃ r, decide (a = b) = r := ⟨_, rfl⟩
  rw [hr]
  by_cases hl : a.length = b.length
  · have hne : ((a.length : Int) == (b.length : Int)) = true := by simp; omega
    have HR := hid hr
    clear hr
    go_enter Tryd.func43, Tryd.ntmps43
    go_wp2
    go_loopw [4, 5] (fun rv iv wr => ∃ (k n : Nat), k ≤ a.length ∧ rv = .bool false ∧ iv = .int .i64 k ∧ a.take k = b.take k ∧ wr = w.drewN n) (fun _ iv _ => a.length - (intOf iv).toNat)
    case atStart => exact ⟨0, 0, Nat.zero_le _, rfl, rfl, rfl, rfl⟩
    case round =>
      obtain ⟨k, n, hk, rfl, rfl, htk, rfl⟩ := hrel
      by_cases hlt : k < a.length
      · have hlb : k < b.length := by omega
        have hk63 : (k : Int) + 1 ≤ 9223372036854775807 := by have : a.length ≤ 9223372036854775807 := Nat.le_trans ha1 ha2; omega
        obtain ⟨b1, o1, rfl, hR1, hcc1⟩ := hra.atI k hlt
        obtain ⟨b2, o2, rfl, hR2, hcc2⟩ := hrb.atI k hlb
        have d1 := hcc1 k hlt
        have f1 := hcc2 k hlb
        have HT := hid (fun he => take_nextL htk hlt hlb he)
        have HN := hid (fun he => ne_atL hlt hlb he)
        clear htk hcc1 hcc2 hra hrb
        generalize a[k] = x at *
        generalize b[k] = y at *
        by_cases hxy : x = y
        · have HT' := hid (HT.out hxy)
          clear HT HN
          subst hxy
          go_wp2_with fail
          go_quiet (fail)
          go_wp2
          go_roundw
          case rel => exact ⟨k + 1, n + nq, by omega, by first | rfl | trivial, by go_num, HT'.out, rfl⟩
          case measure => simp [intOf]; omega
        · have hwd := int_neF hxy
          have HB := hid (show r = false from by rw [← HR.out]; exact decide_eq_false (HN.out hxy))
          clear HT HN hxy
          go_wp2_with fail
          go_quiet (fail)
          go_wp2
          go_ret
          exact ⟨by rw [HB.out]; rfl, n + nq, (World.drewN_drewN _ _ _).symm⟩
      · obtain rfl : k = a.length := by omega
        have HB := hid (show r = true from by rw [← HR.out]; exact decide_eq_true (eq_fullL htk hl))
        clear htk
        go_wp2
        go_ret
        exact ⟨by rw [HB.out]; rfl, n, rfl⟩
  · have hne : ((a.length : Int) == (b.length : Int)) = false := by simp; omega
    have HB := hid (show r = false from by rw [← hr]; exact decide_eq_false (fun e => hl (by rw [e])))
    clear hr hl
    go_enter Tryd.func43, Tryd.ntmps43
    go_wp2
    go_ret
    exact ⟨by rw [HB.out]; rfl, 0, rfl⟩

set_option maxRecDepth 100000 in
set_option maxHeartbeats 2000000 in
theorem eqlists_any (a b : List (List Int)) (va vb : Value) (R R' : Nat → Prop) (w : World) (ha : LL R w va a) (hb : LL R' w vb b) :
    Calls Tryd.prog 33 #[va, vb] w fun e w' => e = .returned (.bool (decide (a = b))) ∧ ∃ n, w.drewN n = w' := by
  obtain ⟨xs, ⟨pa, ca, rfl, ha1, ha2, ha3, hra⟩, hxl, hxs⟩ := ha
  obtain ⟨ys, ⟨pb, cb, rfl, hb1, hb2, hb3, hrb⟩, hyl, hys⟩ := hb
  obtain ⟨r, hr⟩ : ∃ r, decide (a = b) = r := ⟨_, rfl⟩
  rw [hr]
  by_cases hl : xs.length = ys.length
  · have hne : ((xs.length : Int) == (ys.length : Int)) = true := by simp; omega
    have HR := hid hr
    clear hr
    have HXS := hid hxs; have HYS := hid hys
    clear hxs hys
    go_enter Tryd.func33, Tryd.ntmps33
    go_wp2
    go_loopw [4, 5] (fun rv iv wr => ∃ (k n : Nat), k ≤ xs.length ∧ rv = .bool false ∧ iv = .int .i64 k ∧ a.take k = b.take k ∧ wr = w.drewN n) (fun _ iv _ => xs.length - (intOf iv).toNat)
    case atStart => exact ⟨0, 0, Nat.zero_le _, rfl, rfl, rfl, rfl⟩
    case round =>
      obtain ⟨k, n, hk, rfl, rfl, htk, hwr⟩ := hrel
      have HWR := hid hwr
      by_cases hlt : k < xs.length
      · have hlb : k < ys.length := by omega
        have hka : k < a.length := by omega
        have hkb : k < b.length := by omega
        obtain ⟨b1, o1, rfl, hR1, hcc1⟩ := hra.at k hlt
        obtain ⟨b2, o2, rfl, hR2, hcc2⟩ := hrb.at k hlb
        have d1 : wr.cell? ⟨b1, o1 + k, none⟩ = some xs[k] := (by rw [hwr]; exact hcc1 k hlt)
        have f1 : wr.cell? ⟨b2, o2 + k, none⟩ = some ys[k] := (by rw [hwr]; exact hcc2 k hlb)
        have hq : ∀ m, Calls Tryd.prog 43 #[xs[k], ys[k]] (wr.drewN m) fun e w' => e = .returned (.bool (decide (a[k] = b[k]))) ∧ ∃ j, w' = (wr.drewN m).drewN j := fun m => (eqints_any a[k] b[k] xs[k] ys[k] R R' (wr.drewN m) (by rw [hwr]; exact ((HXS.out k hka hlt).drewN n).drewN m) (by rw [hwr]; exact ((HYS.out k hkb hlb).drewN n).drewN m)).mono (fun _ _ h => ⟨h.1, h.2.imp fun _ h => h.symm⟩)
        have HQ := hid hq
        have HT := hid (fun he => take_nextL htk hka hkb he)
        have HN := hid (fun he => ne_atL hka hkb he)
        clear htk hcc1 hcc2 hra hrb hq hwr
        generalize a[k] = x at *
        generalize b[k] = y at *
        generalize xs[k] = xv at *
        generalize ys[k] = yv at *
        by_cases hxy : x = y
        · rw [decide_eq_true hxy] at HQ
          have HT' := hid (HT.out hxy)
          clear HT HN hxy
          go_wp2_with fail
          go_quiet ((go_at_call 43; exact Calls.quiet_of (HQ.out _)))
          go_wp2
          go_roundw
          case rel => exact ⟨k + 1, n + nq, by omega, by first | rfl | trivial, by go_num, HT'.out, by rw [HWR.out, World.drewN_drewN]⟩
          case measure => simp [intOf]; omega
        · rw [decide_eq_false hxy] at HQ
          have HB := hid (show r = false from by rw [← HR.out]; exact decide_eq_false (HN.out hxy))
          clear HT HN hxy
          go_wp2_with fail
          go_quiet ((go_at_call 43; exact Calls.quiet_of (HQ.out _)))
          go_wp2
          go_ret
          exact ⟨by rw [HB.out]; rfl, n + nq, by rw [HWR.out, World.drewN_drewN]⟩
      · clear hwr
        obtain rfl : k = xs.length := by omega
        have HB := hid (show r = true from by rw [← HR.out]; rw [hxl] at htk; exact decide_eq_true (eq_fullL htk (by omega)))
        clear htk
        go_wp2
        go_ret
        exact ⟨by rw [HB.out]; rfl, n, HWR.out.symm⟩
  · have hne : ((xs.length : Int) == (ys.length : Int)) = false := by simp; omega
    have HB := hid (show r = false from by rw [← hr]; exact decide_eq_false (fun e => hl (by rw [hxl, hyl, e])))
    clear hr hl
    go_enter Tryd.func33, Tryd.ntmps33
    go_wp2
    go_ret
    exact ⟨by rw [HB.out]; rfl, 0, rfl⟩


set_option maxRecDepth 100000 in
set_option maxHeartbeats 2000000 in
theorem eqformula_any (n m : Int) (a b : List (List Int)) (va vb : Value) (w : World) (ha : LL (· < w.heap.size) w va a) (hb : LL (· < w.heap.size) w vb b) :
    Calls Tryd.prog 17 #[.agg #[.int .i64 n, va], .agg #[.int .i64 m, vb]] w fun e w' => e = .returned (.bool (decide (n = m ∧ a = b))) ∧ Below w.heap.size w w' := by
  obtain ⟨w2, hw2⟩ : ∃ w2, (w.alloc (.cells #[.int .i64 n, va] 24)).alloc (.cells #[.int .i64 m, vb] 24) = w2 := ⟨_, rfl⟩
  have hb2 : Below w.heap.size w w2 := by rw [← hw2]; exact ((Below.refl _ _).alloc (Nat.le_refl _) _).alloc (by rw [World.size_alloc]; omega) _
  have hk : ∀ i, i < w.heap.size → i < w2.heap.size ∧ w2.heap[i]? = w.heap[i]? := fun i hi => ⟨Nat.lt_of_lt_of_le hi hb2.size, hb2.block i hi⟩
  have HQ := hid (eqlists_any a b va vb (· < w2.heap.size) (· < w2.heap.size) w2 (LL.keep ha hk) (LL.keep hb hk))
  have HW2 := hid hw2; have HB2 := hid hb2
  clear hb2 hk hw2 ha hb
  by_cases hnm : n = m
  · subst hnm
    have e1 : decide (n = n ∧ a = b) = decide (a = b) := by simp
    rw [e1]
    go_enter Tryd.func17, Tryd.ntmps17
    go_wp2_with (first | (go_at_call 33; rw [HW2.out]; refine HQ.out.mono ?_; rintro e w5 ⟨rfl, k, rfl⟩))
    go_ret
    exact ⟨rfl, ⟨HB2.out.os, HB2.out.tape, HB2.out.output, HB2.out.size, HB2.out.block⟩⟩
  · have e1 : decide (n = m ∧ a = b) = false := decide_eq_false (fun h => hnm h.1)
    have e2 : (n == m) = false := by simp [hnm]
    rw [e1]
    go_enter Tryd.func17, Tryd.ntmps17
    go_wp2_with fail
    go_ret
    exact ⟨rfl, by rw [HW2.out]; exact HB2.out⟩

end Go.Proofs.YtfllhhgnflpagaaDoor
