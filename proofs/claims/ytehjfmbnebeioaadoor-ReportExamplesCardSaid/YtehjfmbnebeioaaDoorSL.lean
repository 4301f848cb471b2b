/-
  Lists of strings, of numbers, and lists of lists of numbers, in memory; whether two are equal: the walks.
-/
import Derived.Test.YtehjfmbnebeioaaDoorApp
import Derived.Test.YtehjfmbnebeioaaDoorProg
import Derived.Laws.StructEq
import Derived.Deep.QuietTactic
import Derived.BigQuiet
namespace Go.Proofs.YtehjfmbnebeioaaDoor
set_option linter.unusedSimpArgs false
set_option linter.unusedVariables false
open Go.RowKit
attribute [local go_sem] Oper.semAt_some

abbrev By := List UInt8
def sV (s : By) : Value := .string ⟨s.toArray⟩
def nV (n : Nat) : Value := .int .u64 (n : Int)
def Strs (R : Nat → Prop) (w : World) (v : Value) (l : List By) : Prop := Sl R w v (l.map sV)
def Nums (R : Nat → Prop) (w : World) (v : Value) (l : List Nat) : Prop := Sl R w v (l.map nV)
/-- A slice of slices of numbers. -/
def NLL (R : Nat → Prop) (w : World) (v : Value) (ls : List (List Nat)) : Prop :=
  ∃ vs, Sl R w v vs ∧ vs.length = ls.length ∧ ∀ i (h : i < ls.length) (h' : i < vs.length), Nums R w vs[i] ls[i]
theorem Strs.op {R : Nat → Prop} {w : World} {v : Value} {xs : List By} (h : Strs R w v xs) :
    ∃ p c, v = .slice p xs.length c ∧ xs.length ≤ c ∧ c ≤ maxLen ∧ xs.length ≤ 140737488355328 ∧ RowR R w p (xs.map sV) := by
  obtain ⟨p, c, e, h1, h2, h3, hr⟩ := h
  rw [List.length_map] at e h1 h3
  exact ⟨p, c, e, h1, h2, h3, hr⟩
theorem Nums.op {R : Nat → Prop} {w : World} {v : Value} {xs : List Nat} (h : Nums R w v xs) :
    ∃ p c, v = .slice p xs.length c ∧ xs.length ≤ c ∧ c ≤ maxLen ∧ xs.length ≤ 140737488355328 ∧ RowR R w p (xs.map nV) := by
  obtain ⟨p, c, e, h1, h2, h3, hr⟩ := h
  rw [List.length_map] at e h1 h3
  exact ⟨p, c, e, h1, h2, h3, hr⟩
theorem NLL.op {R : Nat → Prop} {w : World} {v : Value} {xs : List (List Nat)} (h : NLL R w v xs) :
    ∃ p c vs, v = .slice p xs.length c ∧ xs.length ≤ c ∧ c ≤ maxLen ∧ xs.length ≤ 140737488355328 ∧ RowR R w p vs ∧ vs.length = xs.length ∧ ∀ i (h : i < xs.length) (h' : i < vs.length), Nums R w vs[i] xs[i] := by
  obtain ⟨vs, ⟨p, c, e, h1, h2, h3, hr⟩, hl, hx⟩ := h
  exact ⟨p, c, vs, by rw [← hl]; exact e, by omega, h2, by omega, hr, hl, hx⟩
theorem Strs.keep {R R' : Nat → Prop} {w w' : World} {v : Value} {xs : List By} (h : Strs R w v xs) (hf : ∀ k, R k → R' k ∧ w'.heap[k]? = w.heap[k]?) : Strs R' w' v xs := Sl.keep h hf
theorem Nums.keep {R R' : Nat → Prop} {w w' : World} {v : Value} {xs : List Nat} (h : Nums R w v xs) (hf : ∀ k, R k → R' k ∧ w'.heap[k]? = w.heap[k]?) : Nums R' w' v xs := Sl.keep h hf
theorem NLL.keep {R R' : Nat → Prop} {w w' : World} {v : Value} {xs : List (List Nat)} (h : NLL R w v xs) (hf : ∀ k, R k → R' k ∧ w'.heap[k]? = w.heap[k]?) : NLL R' w' v xs :=
  let ⟨vs, h1, h2, h3⟩ := h; ⟨vs, Sl.keep h1 hf, h2, fun i hi hi' => (h3 i hi hi').keep hf⟩
theorem Strs.drewN {R : Nat → Prop} {w : World} {v : Value} {xs : List By} (h : Strs R w v xs) (n : Nat) : Strs R (w.drewN n) v xs := h.keep fun k hk => ⟨hk, rfl⟩
theorem Nums.drewN {R : Nat → Prop} {w : World} {v : Value} {xs : List Nat} (h : Nums R w v xs) (n : Nat) : Nums R (w.drewN n) v xs := h.keep fun k hk => ⟨hk, rfl⟩
theorem NLL.drewN {R : Nat → Prop} {w : World} {v : Value} {xs : List (List Nat)} (h : NLL R w v xs) (n : Nat) : NLL R (w.drewN n) v xs := h.keep fun k hk => ⟨hk, rfl⟩
theorem Strs.below {w w' : World} {v : Value} {xs : List By} (h : Strs (· < w.heap.size) w v xs) (hb : Below w.heap.size w w') : Strs (· < w'.heap.size) w' v xs := h.keep fun k hk => ⟨Nat.lt_of_lt_of_le hk hb.size, hb.block k hk⟩
theorem Nums.below {w w' : World} {v : Value} {xs : List Nat} (h : Nums (· < w.heap.size) w v xs) (hb : Below w.heap.size w w') : Nums (· < w'.heap.size) w' v xs := h.keep fun k hk => ⟨Nat.lt_of_lt_of_le hk hb.size, hb.block k hk⟩
theorem NLL.below {w w' : World} {v : Value} {xs : List (List Nat)} (h : NLL (· < w.heap.size) w v xs) (hb : Below w.heap.size w w') : NLL (· < w'.heap.size) w' v xs := h.keep fun k hk => ⟨Nat.lt_of_lt_of_le hk hb.size, hb.block k hk⟩
theorem Strs.nil {R : Nat → Prop} {w : World} : Strs R w (.slice none 0 0) [] := Sl.nil
theorem Nums.nil {R : Nat → Prop} {w : World} : Nums R w (.slice none 0 0) [] := Sl.nil
theorem NLL.nil {R : Nat → Prop} {w : World} : NLL R w (.slice none 0 0) [] := ⟨[], Sl.nil, rfl, fun i h => absurd h (by simp)⟩
theorem RowR.atS {R : Nat → Prop} {w : World} {p : Option Addr} {xs : List By} (h : RowR R w p (xs.map sV)) (k : Nat) (hk : k < xs.length) :
    ∃ b off, p = some ⟨b, off, none⟩ ∧ R b ∧ (∀ j (h : j < xs.length), w.cell? ⟨b, off + j, none⟩ = some (.string ⟨xs[j].toArray⟩)) := by
  obtain ⟨b, off, e, hR, hc⟩ := h.at k (by simpa using hk)
  exact ⟨b, off, e, hR, fun j hj => by rw [hc j (by simpa using hj)]; simp [sV]⟩
theorem RowR.atN {R : Nat → Prop} {w : World} {p : Option Addr} {xs : List Nat} (h : RowR R w p (xs.map nV)) (k : Nat) (hk : k < xs.length) :
    ∃ b off, p = some ⟨b, off, none⟩ ∧ R b ∧ (∀ j (h : j < xs.length), w.cell? ⟨b, off + j, none⟩ = some (.int .u64 (xs[j] : Int))) := by
  obtain ⟨b, off, e, hR, hc⟩ := h.at k (by simpa using hk)
  exact ⟨b, off, e, hR, fun j hj => by rw [hc j (by simpa using hj)]; simp [nV]⟩

theorem take_nextL {α : Type} {a b : List α} {k : Nat} (h : a.take k = b.take k) (ha : k < a.length) (hb : k < b.length) (he : a[k] = b[k]) : a.take (k + 1) = b.take (k + 1) := by
  rw [List.take_add_one, List.take_add_one, h, List.getElem?_eq_getElem ha, List.getElem?_eq_getElem hb, he]
theorem ne_atL {α : Type} {a b : List α} {k : Nat} (ha : k < a.length) (hb : k < b.length) (he : a[k] ≠ b[k]) : a ≠ b := by
  rintro rfl; exact he rfl
theorem eq_fullL {α : Type} {a b : List α} (h : a.take a.length = b.take a.length) (hl : a.length = b.length) : a = b := by
  rw [List.take_of_length_le (Nat.le_refl _), List.take_of_length_le (by omega)] at h; exact h
theorem str_eqL (t u : By) : ((⟨t.toArray⟩ : ByteArray).toList == (⟨u.toArray⟩ : ByteArray).toList) = decide (t = u) := by
  rw [ByteArray.toList_eq, ByteArray.toList_eq]
  show (t.toArray.toList == u.toArray.toList) = _
  simp
  by_cases h : t = u <;> simp [h]
theorem str_neF {x y : By} (h : x ≠ y) : (x == y) = false := by rw [beq_eq_false_iff_ne]; exact h
theorem num_neF {x y : Nat} (h : x ≠ y) : ((x : Int) != (y : Int)) = true := by rw [bne_iff_ne]; omega

set_option maxRecDepth 100000 in
set_option maxHeartbeats 2000000 in
theorem eqstrings_any (a b : List By) (va vb : Value) (R R' : Nat → Prop) (w : World) (ha : Strs R w va a) (hb : Strs R' w vb b) :
    Calls Tryd.prog 17 #[va, vb] w fun e w' => e = .returned (.bool (decide (a = b))) ∧ ∃ n, w.drewN n = w' := by
  obtain ⟨pa, ca, rfl, ha1, ha2, ha3, hra⟩ := ha.op
  obtain ⟨pb, cb, rfl, hb1, hb2, hb3, hrb⟩ := hb.op
  clear ha hb
  obtain ⟨r, hr⟩ : ∃ r, decide (a = b) = r := ⟨_, rfl⟩
  rw [hr]
  by_cases hl : a.length = b.length
  · have hne : ((a.length : Int) == (b.length : Int)) = true := by simp; omega
    have HR := hid hr
    clear hr
    go_enter Tryd.func17, Tryd.ntmps17
    go_wp2
    go_loopw [4, 5] (fun rv iv wr => ∃ (k n : Nat), k ≤ a.length ∧ rv = .bool false ∧ iv = .int .i64 k ∧ a.take k = b.take k ∧ wr = w.drewN n) (fun _ iv _ => a.length - (intOf iv).toNat)
    case atStart => exact ⟨0, 0, Nat.zero_le _, rfl, rfl, rfl, rfl⟩
    case round =>
      obtain ⟨k, n, hk, rfl, rfl, htk, rfl⟩ := hrel
      by_cases hlt : k < a.length
      · have hlb : k < b.length := by omega
        have hk63 : (k : Int) + 1 ≤ 9223372036854775807 := by have : a.length ≤ 9223372036854775807 := Nat.le_trans ha1 ha2; omega
        obtain ⟨b1, o1, rfl, hR1, hcc1⟩ := hra.atS k hlt
        obtain ⟨b2, o2, rfl, hR2, hcc2⟩ := hrb.atS k hlb
        have d1 := hcc1 k hlt
        have f1 := hcc2 k hlb
        have HT := hid (fun he => take_nextL htk hlt hlb he)
        have HN := hid (fun he => ne_atL hlt hlb he)
        clear htk hcc1 hcc2 hra hrb
        generalize a[k] = x at *
        generalize b[k] = y at *
        by_cases hxy : x = y
        · have HT' := hid (HT.out hxy)
          clear HT HN
          subst hxy
          go_wp2_with fail
          go_quiet (fail)
          go_wp2
          go_roundw
          case rel => exact ⟨k + 1, n + nq, by omega, by first | rfl | trivial, by go_num, HT'.out, rfl⟩
          case measure => simp [intOf]; omega
        · have hwd := str_neF hxy
          have HB := hid (show r = false from by rw [← HR.out]; exact decide_eq_false (HN.out hxy))
          clear HT HN hxy
          go_wp2_with fail
          go_quiet (fail)
          go_wp2
          go_ret
          exact ⟨by rw [HB.out]; rfl, n + nq, (World.drewN_drewN _ _ _).symm⟩
      · obtain rfl : k = a.length := by omega
        have HB := hid (show r = true from by rw [← HR.out]; exact decide_eq_true (eq_fullL htk hl))
        clear htk
        go_wp2
        go_ret
        exact ⟨by rw [HB.out]; rfl, n, rfl⟩
  · have hne : ((a.length : Int) == (b.length : Int)) = false := by simp; omega
    have HB := hid (show r = false from by rw [← hr]; exact decide_eq_false (fun e => hl (by rw [e])))
    clear hr hl
    go_enter Tryd.func17, Tryd.ntmps17
    go_wp2
    go_ret
    exact ⟨by rw [HB.out]; rfl, 0, rfl⟩

set_option maxRecDepth 100000 in
set_option maxHeartbeats 2000000 in
theorem eqnums_any (a b : List Nat) (va vb : Value) (R R' : Nat → Prop) (w : World) (ha : Nums R w va a) (hb : Nums R' w vb b) :
    Calls Tryd.prog 54 #[va, vb] w fun e w' => e = .returned (.bool (decide (a = b))) ∧ ∃ n, w.drewN n = w' := by
  obtain ⟨pa, ca, rfl, ha1, ha2, ha3, hra⟩ := ha.op
  obtain ⟨pb, cb, rfl, hb1, hb2, hb3, hrb⟩ := hb.op
  clear ha hb
  obtain ⟨r, hr⟩ : ∃ r, decide (a = b) = r := ⟨_, rfl⟩
  rw [hr]
  by_cases hl : a.length = b.length
  · have hne : ((a.length : Int) == (b.length : Int)) = true := by simp; omega
    have HR := hid hr
    clear hr
    go_enter Tryd.func54, Tryd.ntmps54
    go_wp2
    go_loopw [4, 5] (fun rv iv wr => ∃ (k n : Nat), k ≤ a.length ∧ rv = .bool false ∧ iv = .int .i64 k ∧ a.take k = b.take k ∧ wr = w.drewN n) (fun _ iv _ => a.length - (intOf iv).toNat)
    case atStart => exact ⟨0, 0, Nat.zero_le _, rfl, rfl, rfl, rfl⟩
    case round =>
      obtain ⟨k, n, hk, rfl, rfl, htk, rfl⟩ := hrel
      by_cases hlt : k < a.length
      · have hlb : k < b.length := by omega
        have hk63 : (k : Int) + 1 ≤ 9223372036854775807 := by have : a.length ≤ 9223372036854775807 := Nat.le_trans ha1 ha2; omega
        obtain ⟨b1, o1, rfl, hR1, hcc1⟩ := hra.atN k hlt
        obtain ⟨b2, o2, rfl, hR2, hcc2⟩ := hrb.atN k hlb
        have d1 := hcc1 k hlt
        have f1 := hcc2 k hlb
        have HT := hid (fun he => take_nextL htk hlt hlb he)
        have HN := hid (fun he => ne_atL hlt hlb he)
        clear htk hcc1 hcc2 hra hrb
        generalize a[k] = x at *
        generalize b[k] = y at *
        by_cases hxy : x = y
        · have HT' := hid (HT.out hxy)
          clear HT HN
          subst hxy
          go_wp2_with fail
          go_quiet (fail)
          go_wp2
          go_roundw
          case rel => exact ⟨k + 1, n + nq, by omega, by first | rfl | trivial, by go_num, HT'.out, rfl⟩
          case measure => simp [intOf]; omega
        · have hwd := num_neF hxy
          have HB := hid (show r = false from by rw [← HR.out]; exact decide_eq_false (HN.out hxy))
          clear HT HN hxy
          go_wp2_with fail
          go_quiet (fail)
          go_wp2
          go_ret
          exact ⟨by rw [HB.out]; rfl, n + nq, (World.drewN_drewN _ _ _).symm⟩
      · obtain rfl : k = a.length := by omega
        have HB := hid (show r = true from by rw [← HR.out]; exact decide_eq_true (eq_fullL htk hl))
        clear htk
        go_wp2
        go_ret
        exact ⟨by rw [HB.out]; rfl, n, rfl⟩
  · have hne : ((a.length : Int) == (b.length : Int)) = false := by simp; omega
    have HB := hid (show r = false from by rw [← hr]; exact decide_eq_false (fun e => hl (by rw [e])))
    clear hr hl
    go_enter Tryd.func54, Tryd.ntmps54
    go_wp2
    go_ret
    exact ⟨by rw [HB.out]; rfl, 0, rfl⟩

set_option maxRecDepth 100000 in
set_option maxHeartbeats 2000000 in
theorem eqinputs_any (a b : List (List Nat)) (va vb : Value) (R R' : Nat → Prop) (w : World) (ha : NLL R w va a) (hb : NLL R' w vb b) :
    Calls Tryd.prog 46 #[va, vb] w fun e w' => e = .returned (.bool (decide (a = b))) ∧ ∃ n, w.drewN n = w' := by
  obtain ⟨xs, ⟨pa, ca, rfl, ha1, ha2, ha3, hra⟩, hxl, hxs⟩ := ha
  obtain ⟨ys, ⟨pb, cb, rfl, hb1, hb2, hb3, hrb⟩, hyl, hys⟩ := hb
  obtain ⟨r, hr⟩ : ∃ r, decide (a = b) = r := ⟨_, rfl⟩
  rw [hr]
  by_cases hl : xs.length = ys.length
  · have hne : ((xs.length : Int) == (ys.length : Int)) = true := by simp; omega
    have HR := hid hr
    clear hr
    have HXS := hid hxs; have HYS := hid hys
    clear hxs hys
    go_enter Tryd.func46, Tryd.ntmps46
    go_wp2
    go_loopw [4, 5] (fun rv iv wr => ∃ (k n : Nat), k ≤ xs.length ∧ rv = .bool false ∧ iv = .int .i64 k ∧ a.take k = b.take k ∧ wr = w.drewN n) (fun _ iv _ => xs.length - (intOf iv).toNat)
    case atStart => exact ⟨0, 0, Nat.zero_le _, rfl, rfl, rfl, rfl⟩
    case round =>
      obtain ⟨k, n, hk, rfl, rfl, htk, hwr⟩ := hrel
      have HWR := hid hwr
      by_cases hlt : k < xs.length
      · have hlb : k < ys.length := by omega
        have hka : k < a.length := by omega
        have hkb : k < b.length := by omega
        obtain ⟨b1, o1, rfl, hR1, hcc1⟩ := hra.at k hlt
        obtain ⟨b2, o2, rfl, hR2, hcc2⟩ := hrb.at k hlb
        have d1 : wr.cell? ⟨b1, o1 + k, none⟩ = some xs[k] := (by rw [hwr]; exact hcc1 k hlt)
        have f1 : wr.cell? ⟨b2, o2 + k, none⟩ = some ys[k] := (by rw [hwr]; exact hcc2 k hlb)
        have hq : ∀ m, Calls Tryd.prog 54 #[xs[k], ys[k]] (wr.drewN m) fun e w' => e = .returned (.bool (decide (a[k] = b[k]))) ∧ ∃ j, w' = (wr.drewN m).drewN j := fun m => (eqnums_any a[k] b[k] xs[k] ys[k] R R' (wr.drewN m) (by rw [hwr]; exact ((HXS.out k hka hlt).drewN n).drewN m) (by rw [hwr]; exact ((HYS.out k hkb hlb).drewN n).drewN m)).mono (fun _ _ h => ⟨h.1, h.2.imp fun _ h => h.symm⟩)
        have HQ := hid hq
        have HT := hid (fun he => take_nextL htk hka hkb he)
        have HN := hid (fun he => ne_atL hka hkb he)
        clear htk hcc1 hcc2 hra hrb hq hwr
        generalize a[k] = x at *
        generalize b[k] = y at *
        generalize xs[k] = xv at *
        generalize ys[k] = yv at *
        by_cases hxy : x = y
        · rw [decide_eq_true hxy] at HQ
          have HT' := hid (HT.out hxy)
          clear HT HN hxy
          go_wp2_with fail
          go_quiet ((go_at_call 54; exact Calls.quiet_of (HQ.out _)))
          go_wp2
          go_roundw
          case rel => exact ⟨k + 1, n + nq, by omega, by first | rfl | trivial, by go_num, HT'.out, by rw [HWR.out, World.drewN_drewN]⟩
          case measure => simp [intOf]; omega
        · rw [decide_eq_false hxy] at HQ
          have HB := hid (show r = false from by rw [← HR.out]; exact decide_eq_false (HN.out hxy))
          clear HT HN hxy
          go_wp2_with fail
          go_quiet ((go_at_call 54; exact Calls.quiet_of (HQ.out _)))
          go_wp2
          go_ret
          exact ⟨by rw [HB.out]; rfl, n + nq, by rw [HWR.out, World.drewN_drewN]⟩
      · clear hwr
        obtain rfl : k = xs.length := by omega
        have HB := hid (show r = true from by rw [← HR.out]; rw [hxl] at htk; exact decide_eq_true (eq_fullL htk (by omega)))
        clear htk
        go_wp2
        go_ret
        exact ⟨by rw [HB.out]; rfl, n, HWR.out.symm⟩
  · have hne : ((xs.length : Int) == (ys.length : Int)) = false := by simp; omega
    have HB := hid (show r = false from by rw [← hr]; exact decide_eq_false (fun e => hl (by rw [hxl, hyl, e])))
    clear hr hl
    go_enter Tryd.func46, Tryd.ntmps46
    go_wp2
    go_ret
    exact ⟨by rw [HB.out]; rfl, 0, rfl⟩

end Go.Proofs.YtehjfmbnebeioaaDoor
