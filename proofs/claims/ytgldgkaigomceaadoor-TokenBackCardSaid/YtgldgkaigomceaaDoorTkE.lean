/-
  Are two lists of words, two lists of lines equal: the walks. The law's own helpers.
-/
import Derived.Test.YtgldgkaigomceaaDoorTkD
import Derived.Laws.StructEq
import Derived.Deep.QuietTactic
import Derived.BigQuiet
namespace Go.Proofs.YtgldgkaigomceaaDoor
set_option linter.unusedSimpArgs false
set_option linter.unusedVariables false
open Go.RowKit
attribute [local go_sem] Oper.semAt_some

theorem take_next {α : Type} {a b : List α} {k : Nat} (h : a.take k = b.take k) (ha : k < a.length) (hb : k < b.length) (he : a[k] = b[k]) : a.take (k + 1) = b.take (k + 1) := by
  rw [List.take_add_one, List.take_add_one, h, List.getElem?_eq_getElem ha, List.getElem?_eq_getElem hb, he]
theorem ne_at {α : Type} {a b : List α} {k : Nat} (ha : k < a.length) (hb : k < b.length) (he : a[k] ≠ b[k]) : a ≠ b := by
  rintro rfl; exact he rfl
theorem eq_full {α : Type} {a b : List α} (h : a.take a.length = b.take a.length) (hl : a.length = b.length) : a = b := by
  rw [List.take_of_length_le (Nat.le_refl _), List.take_of_length_le (by omega)] at h; exact h

theorem str_eq (t u : Bs) : ((⟨t.toArray⟩ : ByteArray).toList == (⟨u.toArray⟩ : ByteArray).toList) = decide (t = u) := by
  rw [ByteArray.toList_eq, ByteArray.toList_eq]
  show (t.toArray.toList == u.toArray.toList) = _
  simp
  by_cases h : t = u <;> simp [h]

theorem nat_beq (a b : Nat) : ((a : Int) == (b : Int)) = decide (a = b) := by
  by_cases h : a = b
  · subst h; simp
  · rw [decide_eq_false h]; simp; omega

/-- Two words are equal: as the program finds it. -/
theorem wd_ne (x y : Wd) (w : World) : (binOp .neq 36 (.agg #[.string ⟨x.1.toArray⟩, .int .i64 (x.2.1 : Int), .int .i64 (x.2.2 : Int)]) (.agg #[.string ⟨y.1.toArray⟩, .int .i64 (y.2.1 : Int), .int .i64 (y.2.2 : Int)])).run Tryd.prog w = .ok (.bool (!decide (x = y))) w := by
  have e : decide (x = y) = (decide (x.1 = y.1) && (((x.2.1 : Int) == (y.2.1 : Int)) && ((x.2.2 : Int) == (y.2.2 : Int)))) := by
    obtain ⟨a, b, c⟩ := x
    obtain ⟨a', b', c'⟩ := y
    simp only [Prod.mk.injEq, nat_beq]
    by_cases h1 : a = a' <;> by_cases h2 : b = b' <;> by_cases h3 : c = c' <;> simp [h1, h2, h3]
  rw [e, ← str_eq]
  generalize (⟨x.1.toArray⟩ : ByteArray) = sx
  generalize (⟨y.1.toArray⟩ : ByteArray) = sy
  go_simp
  by_cases h1 : sx.toList = sy.toList <;> by_cases h2 : (x.2.1 : Int) = y.2.1 <;> by_cases h3 : (x.2.2 : Int) = y.2.2 <;> simp [h1, h2, h3]

set_option maxRecDepth 100000 in
set_option maxHeartbeats 2000000 in
theorem eqwords_any (a b : List Wd) (va vb : Value) (R R' : Nat → Prop) (w : World) (ha : Wds R w va a) (hb : Wds R' w vb b) :
    Calls Tryd.prog 49 #[va, vb] w fun e w' => e = .returned (.bool (decide (a = b))) ∧ ∃ n, w.drewN n = w' := by
  obtain ⟨pa, ca, rfl, ha1, ha2, hra⟩ := ha
  obtain ⟨pb, cb, rfl, hb1, hb2, hrb⟩ := hb
  obtain ⟨r, hr⟩ : ∃ r, decide (a = b) = r := ⟨_, rfl⟩
  rw [hr]
  by_cases hl : a.length = b.length
  · have hne : ((a.length : Int) == (b.length : Int)) = true := by simp; omega
    have HR := hid hr
    clear hr
    go_enter Tryd.func49, Tryd.ntmps49
    go_wp2
    go_loopw [4, 5] (fun rv iv wr => ∃ (k n : Nat), k ≤ a.length ∧ rv = .bool false ∧ iv = .int .i64 k ∧ a.take k = b.take k ∧ wr = w.drewN n) (fun _ iv _ => a.length - (intOf iv).toNat)
    case atStart => exact ⟨0, 0, Nat.zero_le _, rfl, rfl, rfl, rfl⟩
    case round =>
      obtain ⟨k, n, hk, rfl, rfl, htk, rfl⟩ := hrel
      by_cases hlt : k < a.length
      · have hlb : k < b.length := by omega
        have hk63 : (k : Int) + 1 ≤ 9223372036854775807 := by have : a.length ≤ 9223372036854775807 := Nat.le_trans ha1 ha2; omega
        obtain ⟨b1, o1, rfl, hR1, hcc1⟩ := hra.atW k hlt
        obtain ⟨b2, o2, rfl, hR2, hcc2⟩ := hrb.atW k hlb
        obtain ⟨d1, d2, d3⟩ := hcc1 k hlt
        obtain ⟨f1, f2, f3⟩ := hcc2 k hlb
        have hwd := fun w => wd_ne a[k] b[k] w
        have HT := hid (fun he => take_next htk hlt hlb he)
        have HN := hid (fun he => ne_at hlt hlb he)
        clear htk hcc1 hcc2 hra hrb
        generalize a[k] = x at *
        generalize b[k] = y at *
        by_cases hxy : x = y
        · rw [decide_eq_true hxy] at hwd
          have HT' := hid (HT.out hxy)
          clear HT HN hxy
          go_wp2_with fail
          go_quiet (fail)
          go_wp2
          go_roundw
          case rel => exact ⟨k + 1, n + nq, by omega, by first | rfl | trivial, by go_num, HT'.out, rfl⟩
          case measure => simp [intOf]; omega
        · rw [decide_eq_false hxy] at hwd
          have HB := hid (show r = false from by rw [← HR.out]; exact decide_eq_false (HN.out hxy))
          clear HT HN hxy
          go_wp2_with fail
          go_quiet (fail)
          go_wp2
          go_ret
          exact ⟨by rw [HB.out]; rfl, n + nq, (World.drewN_drewN _ _ _).symm⟩
      · obtain rfl : k = a.length := by omega
        have HB := hid (show r = true from by rw [← HR.out]; exact decide_eq_true (eq_full htk hl))
        clear htk
        go_wp2
        go_ret
        exact ⟨by rw [HB.out]; rfl, n, rfl⟩
  · have hne : ((a.length : Int) == (b.length : Int)) = false := by simp; omega
    have HB := hid (show r = false from by rw [← hr]; exact decide_eq_false (fun e => hl (by rw [e])))
    clear hr hl
    go_enter Tryd.func49, Tryd.ntmps49
    go_wp2
    go_ret
    exact ⟨by rw [HB.out]; rfl, 0, rfl⟩

theorem Wds.drewN {R : Nat → Prop} {w : World} {v : Value} {ws : List Wd} (h : Wds R w v ws) (n : Nat) : Wds R (w.drewN n) v ws := h.keep fun k hk => ⟨hk, rfl⟩
theorem WLL.drewN {R : Nat → Prop} {w : World} {v : Value} {ws : List (List Wd)} (h : WLL R w v ws) (n : Nat) : WLL R (w.drewN n) v ws := h.keep fun k hk => ⟨hk, rfl⟩

set_option maxRecDepth 100000 in
set_option maxHeartbeats 2000000 in
theorem eqlines_any (a b : List (List Wd)) (va vb : Value) (R R' : Nat → Prop) (w : World) (ha : WLL R w va a) (hb : WLL R' w vb b) :
    Calls Tryd.prog 35 #[va, vb] w fun e w' => e = .returned (.bool (decide (a = b))) ∧ ∃ n, w.drewN n = w' := by
  obtain ⟨xs, ⟨pa, ca, rfl, ha1, ha2, ha3, hra⟩, hxl, hxs⟩ := ha
  obtain ⟨ys, ⟨pb, cb, rfl, hb1, hb2, hb3, hrb⟩, hyl, hys⟩ := hb
  obtain ⟨r, hr⟩ : ∃ r, decide (a = b) = r := ⟨_, rfl⟩
  rw [hr]
  by_cases hl : xs.length = ys.length
  · have hne : ((xs.length : Int) == (ys.length : Int)) = true := by simp; omega
    have HR := hid hr
    clear hr
    have HXS := hid hxs; have HYS := hid hys
    clear hxs hys
    go_enter Tryd.func35, Tryd.ntmps35
    go_wp2
    go_loopw [4, 5] (fun rv iv wr => ∃ (k n : Nat), k ≤ xs.length ∧ rv = .bool false ∧ iv = .int .i64 k ∧ a.take k = b.take k ∧ wr = w.drewN n) (fun _ iv _ => xs.length - (intOf iv).toNat)
    case atStart => exact ⟨0, 0, Nat.zero_le _, rfl, rfl, rfl, rfl⟩
    case round =>
      obtain ⟨k, n, hk, rfl, rfl, htk, hwr⟩ := hrel
      have HWR := hid hwr
      by_cases hlt : k < xs.length
      · have hlb : k < ys.length := by omega
        have hka : k < a.length := by omega
        have hkb : k < b.length := by omega
        obtain ⟨b1, o1, rfl, hR1, hcc1⟩ := hra.at k hlt
        obtain ⟨b2, o2, rfl, hR2, hcc2⟩ := hrb.at k hlb
        have d1 : wr.cell? ⟨b1, o1 + k, none⟩ = some xs[k] := (by rw [hwr]; exact hcc1 k hlt)
        have f1 : wr.cell? ⟨b2, o2 + k, none⟩ = some ys[k] := (by rw [hwr]; exact hcc2 k hlb)
        have hq : ∀ m, Calls Tryd.prog 49 #[xs[k], ys[k]] (wr.drewN m) fun e w' => e = .returned (.bool (decide (a[k] = b[k]))) ∧ ∃ j, w' = (wr.drewN m).drewN j := fun m => (eqwords_any a[k] b[k] xs[k] ys[k] R R' (wr.drewN m) (by rw [hwr]; exact ((HXS.out k hka hlt).drewN n).drewN m) (by rw [hwr]; exact ((HYS.out k hkb hlb).drewN n).drewN m)).mono (fun _ _ h => ⟨h.1, h.2.imp fun _ h => h.symm⟩)
        have HQ := hid hq
        have HT := hid (fun he => take_next htk hka hkb he)
        have HN := hid (fun he => ne_at hka hkb he)
        clear htk hcc1 hcc2 hra hrb hq hwr
        generalize a[k] = x at *
        generalize b[k] = y at *
        generalize xs[k] = xv at *
        generalize ys[k] = yv at *
        by_cases hxy : x = y
        · rw [decide_eq_true hxy] at HQ
          have HT' := hid (HT.out hxy)
          clear HT HN hxy
          go_wp2_with fail
          go_quiet ((go_at_call 49; exact Calls.quiet_of (HQ.out _)))
          go_wp2
          go_roundw
          case rel => exact ⟨k + 1, n + nq, by omega, by first | rfl | trivial, by go_num, HT'.out, by rw [HWR.out, World.drewN_drewN]⟩
          case measure => simp [intOf]; omega
        · rw [decide_eq_false hxy] at HQ
          have HB := hid (show r = false from by rw [← HR.out]; exact decide_eq_false (HN.out hxy))
          clear HT HN hxy
          go_wp2_with fail
          go_quiet ((go_at_call 49; exact Calls.quiet_of (HQ.out _)))
          go_wp2
          go_ret
          exact ⟨by rw [HB.out]; rfl, n + nq, by rw [HWR.out, World.drewN_drewN]⟩
      · clear hwr
        obtain rfl : k = xs.length := by omega
        have HB := hid (show r = true from by rw [← HR.out]; rw [hxl] at htk; exact decide_eq_true (eq_full htk (by omega)))
        clear htk
        go_wp2
        go_ret
        exact ⟨by rw [HB.out]; rfl, n, HWR.out.symm⟩
  · have hne : ((xs.length : Int) == (ys.length : Int)) = false := by simp; omega
    have HB := hid (show r = false from by rw [← hr]; exact decide_eq_false (fun e => hl (by rw [hxl, hyl, e])))
    clear hr hl
    go_enter Tryd.func35, Tryd.ntmps35
    go_wp2
    go_ret
    exact ⟨by rw [HB.out]; rfl, 0, rfl⟩

end Go.Proofs.YtgldgkaigomceaaDoor
