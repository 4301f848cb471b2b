/-
  Checks of clauses: lit.Check and the reference's.
-/
import Derived.Test.YtfllhhgnflpagaaDoorDmH
import Derived.IntWalk
namespace Go.Proofs.YtfllhhgnflpagaaDoor
set_option linter.unusedSimpArgs false
set_option linter.unusedVariables false
open Go.RowKit Go.Shelf
attribute [local go_sem] Oper.semAt_some

theorem u64_of {a : Int} (h : -9223372036854775808 ≤ a) (h0 : a < 0) : IntKind.u64.wrap a = a + 18446744073709551616 := by
  simp [IntKind.wrap, IntKind.bits, IntKind.signed]; omega

set_option maxRecDepth 100000 in
set_option maxHeartbeats 400000 in
theorem size_neg (n : Nat) (w : World) (h0 : 0 < n) (h1 : n ≤ 9223372036854775808) : Calls Tryd.prog 44 #[.int .i64 (-(n : Int))] w fun e w' => e = .returned (.int .u64 (n : Int)) ∧ w = w' := by
  have d : decide (-(n : Int) < 0) = true := by simp; omega
  have d2 : -(n : Int) < 0 := by omega
  have e1 : IntKind.u64.wrap (-(n : Int)) = 18446744073709551616 - (n : Int) := by rw [u64_of (by omega) (by omega)]; omega
  have e2 : IntKind.u64.wrap (-(18446744073709551616 - (n : Int))) = (n : Int) := by simp [IntKind.wrap, IntKind.bits, IntKind.signed]; omega
  go_enter Tryd.func44, Tryd.ntmps44
  go_wp2
  go_ret
  refine ⟨congrArg (fun z => Ending.returned (.int .u64 z)) ?_, rfl⟩
  first
    | rfl
    | omega
    | (simp; omega)

set_option maxRecDepth 100000 in
set_option maxHeartbeats 400000 in
theorem size_pos (n : Nat) (w : World) (h1 : n ≤ 9223372036854775807) : Calls Tryd.prog 44 #[.int .i64 (n : Int)] w fun e w' => e = .returned (.int .u64 (n : Int)) ∧ w = w' := by
  have d : decide ((n : Int) < 0) = false := by simp
  go_enter Tryd.func44, Tryd.ntmps44
  go_wp2
  go_ret
  refine ⟨congrArg (fun z => Ending.returned (.int .u64 z)) ?_, rfl⟩
  first
    | rfl
    | omega
    | (simp; omega)
theorem size_any (a : Int) (w : World) (h0 : -9223372036854775808 ≤ a) (h1 : a ≤ 9223372036854775807) : Calls Tryd.prog 44 #[.int .i64 a] w fun e w' => e = .returned (.int .u64 (a.natAbs : Int)) ∧ w = w' := by
  by_cases h : a < 0
  · have := size_neg a.natAbs w (by omega) (by omega)
    rw [show (-(a.natAbs : Int)) = a by omega] at this
    exact this
  · have := size_pos a.natAbs w (by omega)
    rw [show ((a.natAbs : Int)) = a by omega] at this
    rw [show ((a.natAbs : Int)) = a by omega]
    exact this

set_option maxRecDepth 100000 in
set_option maxHeartbeats 400000 in
theorem rsize_neg (n : Nat) (w : World) (h0 : 0 < n) (h1 : n ≤ 9223372036854775808) : Calls Tryd.prog 46 #[.int .i64 (-(n : Int))] w fun e w' => e = .returned (.int .u64 (n : Int)) ∧ w = w' := by
  have d : decide (-(n : Int) < 0) = true := by simp; omega
  have d2 : -(n : Int) < 0 := by omega
  have e1 : IntKind.u64.wrap (-(n : Int)) = 18446744073709551616 - (n : Int) := by rw [u64_of (by omega) (by omega)]; omega
  have e2 : IntKind.u64.wrap (-(18446744073709551616 - (n : Int))) = (n : Int) := by simp [IntKind.wrap, IntKind.bits, IntKind.signed]; omega
  go_enter Tryd.func46, Tryd.ntmps46
  go_wp2
  go_ret
  refine ⟨congrArg (fun z => Ending.returned (.int .u64 z)) ?_, rfl⟩
  first
    | rfl
    | omega
    | (simp; omega)

set_option maxRecDepth 100000 in
set_option maxHeartbeats 400000 in
theorem rsize_pos (n : Nat) (w : World) (h1 : n ≤ 9223372036854775807) : Calls Tryd.prog 46 #[.int .i64 (n : Int)] w fun e w' => e = .returned (.int .u64 (n : Int)) ∧ w = w' := by
  have d : decide ((n : Int) < 0) = false := by simp
  go_enter Tryd.func46, Tryd.ntmps46
  go_wp2
  go_ret
  refine ⟨congrArg (fun z => Ending.returned (.int .u64 z)) ?_, rfl⟩
  first
    | rfl
    | omega
    | (simp; omega)
theorem rsize_any (a : Int) (w : World) (h0 : -9223372036854775808 ≤ a) (h1 : a ≤ 9223372036854775807) : Calls Tryd.prog 46 #[.int .i64 a] w fun e w' => e = .returned (.int .u64 (a.natAbs : Int)) ∧ w = w' := by
  by_cases h : a < 0
  · have := rsize_neg a.natAbs w (by omega) (by omega)
    rw [show (-(a.natAbs : Int)) = a by omega] at this
    exact this
  · have := rsize_pos a.natAbs w (by omega)
    rw [show ((a.natAbs : Int)) = a by omega] at this
    rw [show ((a.natAbs : Int)) = a by omega]
    exact this

def badL (n a : Int) : Bool := a == 0 || decide (n < (a.natAbs : Int))
theorem litM_big {n : Int} {c : List Int} (h : n < 0 ∨ 1048576 < n) : litM n c = 3 := by unfold litM; rw [if_pos h]
theorem litM_long {n : Int} {c : List Int} (h : ¬ (n < 0 ∨ 1048576 < n)) (h1 : 4096 < c.length) : litM n c = 5 := by unfold litM; rw [if_neg h, if_pos h1]
theorem litM_bad {n : Int} {c : List Int} (h : ¬ (n < 0 ∨ 1048576 < n)) (h1 : ¬ 4096 < c.length) (k : Nat) (hk : k < c.length) (hb : badL n c[k] = true) : litM n c = 3 := by
  unfold litM
  rw [if_neg h, if_neg h1, if_pos]
  rw [List.any_eq_true]
  exact ⟨c[k], List.getElem_mem hk, hb⟩
theorem litM_ok {n : Int} {c : List Int} (h : ¬ (n < 0 ∨ 1048576 < n)) (h1 : ¬ 4096 < c.length) (hb : ∀ k (hk : k < c.length), badL n c[k] = false) : litM n c = 0 := by
  unfold litM
  rw [if_neg h, if_neg h1, if_neg]
  intro ha
  rw [List.any_eq_true] at ha
  obtain ⟨x, hx, hy⟩ := ha
  obtain ⟨k, hk, rfl⟩ := List.getElem_of_mem hx
  have := hb k hk
  unfold badL at this
  rw [this] at hy
  cases hy

set_option maxRecDepth 100000 in
set_option maxHeartbeats 800000 in
theorem lcheck_any (R : Nat → Prop) (n : Int) (c : List Int) (v : Value) (w : World) (hv : Ints R w v c) (hb : ∀ a ∈ c, -9223372036854775808 ≤ a ∧ a ≤ 9223372036854775807) (hn0 : -9223372036854775808 ≤ n) (hn1 : n ≤ 9223372036854775807) :
    Calls Tryd.prog 34 #[.int .i64 n, v] w fun e w' => e = .returned (.int .i64 (litM n c)) ∧ w = w' := by
  obtain ⟨p, cap, rfl, h1, h2, h3, hr⟩ := hv
  rw [List.length_map] at h1 h3 ⊢
  by_cases hneg : n < 0
  · have HL := hid (litM_big (c := c) (.inl hneg))
    have d1 : decide (n < 0) = true := by simp [hneg]
    generalize c.length = L at *
    clear hr hb
    go_enter Tryd.func34, Tryd.ntmps34
    go_wp2
    go_ret
    exact ⟨by rw [HL.out]; rfl, rfl⟩
  by_cases hbig : 1048576 < n
  · have HL := hid (litM_big (c := c) (.inr hbig))
    have d1 : decide (n < 0) = false := by simp; omega
    have d2 : decide (1048576 < n) = true := by simp [hbig]
    generalize c.length = L at *
    clear hr hb
    go_enter Tryd.func34, Tryd.ntmps34
    go_wp2
    go_ret
    exact ⟨by rw [HL.out]; rfl, rfl⟩
  have hno : ¬ (n < 0 ∨ 1048576 < n) := by omega
  have d1 : decide (n < 0) = false := by simp; omega
  have d2 : decide (1048576 < n) = false := by simp; omega
  by_cases hlong : 4096 < c.length
  · have HL := hid (litM_long hno hlong)
    have d3 : decide (4096 < (c.length : Int)) = true := by simp; omega
    generalize c.length = L at *
    clear hr hb hno
    go_enter Tryd.func34, Tryd.ntmps34
    go_wp2
    go_ret
    exact ⟨by rw [HL.out]; rfl, rfl⟩
  have d3 : decide (4096 < (c.length : Int)) = false := by simp; omega
  have HNO := hid hno; have HLG := hid hlong; have HR := hid hr; have HB := hid hb
  obtain ⟨L, hL⟩ : ∃ L, c.length = L := ⟨_, rfl⟩
  have HLL := hid hL
  rw [hL] at d3 h1 h3 ⊢
  have hL4 : L ≤ 4096 := by omega
  clear hno hr hb hL hlong
  go_enter Tryd.func34, Tryd.ntmps34
  go_wp2_with fail
  go_loopw [18] (fun i wr => ∃ k : Nat, k ≤ L ∧ i = .int .i64 (k : Int) ∧ wr = w ∧ ∀ j (hj : j < c.length), j < k → badL n c[j] = false) (fun i _ => L - (intOf i).toNat)
  case atStart => exact ⟨0, by omega, rfl, rfl, fun j hj h => by omega⟩
  case round =>
    obtain ⟨k, hk, rfl, rfl, hbk⟩ := hrel
    by_cases hlt : k < L
    · have hkd : decide ((k : Int) < (L : Int)) = true := by simp; omega
      have hkc : k < c.length := by have := HLL.out; omega
      obtain ⟨bk, off, rfl, hR1, hcell⟩ := HR.out.at k (by simpa using hkc)
      have hck := hcell k (by simpa using hkc)
      rw [List.getElem_map] at hck
      have hbd := HB.out _ (List.getElem_mem hkc)
      obtain ⟨a, ha⟩ : ∃ a, c[k] = a := ⟨_, rfl⟩
      rw [ha] at hck hbd
      have HS := hid (size_any a wr hbd.1 hbd.2)
      have HBK := hid hbk; have HA := hid ha
      clear hcell hR1 hbk ha
      by_cases ha0 : a = 0
      · have HL := hid (litM_bad HNO.out HLG.out k hkc (by rw [HA.out, ha0]; rfl))
        have e0 : (a == 0) = true := by simp [ha0]
        clear hbd
        go_wp2_with fail
        go_ret
        exact ⟨by rw [HL.out]; rfl, rfl⟩
      · have e0 : (a == 0) = false := by simp [ha0]
        obtain ⟨q, hq⟩ : ∃ q, a.natAbs = q := ⟨_, rfl⟩
        rw [hq] at HS
        by_cases hgt : n < (q : Int)
        · have HL := hid (litM_bad HNO.out HLG.out k hkc (by rw [HA.out]; unfold badL; rw [hq]; simp [hgt]))
          have e1 : decide (n < (q : Int)) = true := by simp [hgt]
          clear hbd hq
          go_wp2_with (go_at_call 44; refine HS.out.mono ?_; rintro e w5 ⟨rfl, rfl⟩)
          go_ret
          exact ⟨by rw [HL.out]; rfl, rfl⟩
        · have HOK := hid (show badL n c[k] = false from by rw [HA.out]; unfold badL; rw [hq]; simp [ha0, hgt])
          have e1 : decide (n < (q : Int)) = false := by simp; omega
          clear hbd hq
          go_wp2_with (go_at_call 44; refine HS.out.mono ?_; rintro e w5 ⟨rfl, rfl⟩)
          go_roundw
          case rel =>
            refine ⟨k + 1, by omega, by go_num, (by first | rfl | trivial), fun j hj hjk => ?_⟩
            by_cases hjk2 : j < k
            · exact HBK.out j hj hjk2
            · obtain rfl : j = k := by omega
              exact HOK.out
          case measure => (simp [intOf] <;> omega)
    · obtain rfl : k = L := by omega
      have HL := hid (litM_ok HNO.out HLG.out (fun j hj => hbk j hj (by have := HLL.out; omega)))
      clear hbk
      go_wp2
      go_ret
      exact ⟨by rw [HL.out]; rfl, rfl⟩

set_option maxRecDepth 100000 in
set_option maxHeartbeats 800000 in
theorem rcheck_any (R : Nat → Prop) (n : Int) (c : List Int) (v : Value) (w : World) (hv : Ints R w v c) (hb : ∀ a ∈ c, -9223372036854775808 ≤ a ∧ a ≤ 9223372036854775807) (hn0 : -9223372036854775808 ≤ n) (hn1 : n ≤ 9223372036854775807) :
    Calls Tryd.prog 36 #[.int .i64 n, v] w fun e w' => e = .returned (.int .i64 (litM n c)) ∧ w = w' := by
  obtain ⟨p, cap, rfl, h1, h2, h3, hr⟩ := hv
  rw [List.length_map] at h1 h3 ⊢
  by_cases hneg : n < 0
  · have HL := hid (litM_big (c := c) (.inl hneg))
    have d1 : decide (n < 0) = true := by simp [hneg]
    generalize c.length = L at *
    clear hr hb
    go_enter Tryd.func36, Tryd.ntmps36
    go_wp2
    go_ret
    exact ⟨by rw [HL.out]; rfl, rfl⟩
  by_cases hbig : 1048576 < n
  · have HL := hid (litM_big (c := c) (.inr hbig))
    have d1 : decide (n < 0) = false := by simp; omega
    have d2 : decide (1048576 < n) = true := by simp [hbig]
    generalize c.length = L at *
    clear hr hb
    go_enter Tryd.func36, Tryd.ntmps36
    go_wp2
    go_ret
    exact ⟨by rw [HL.out]; rfl, rfl⟩
  have hno : ¬ (n < 0 ∨ 1048576 < n) := by omega
  have d1 : decide (n < 0) = false := by simp; omega
  have d2 : decide (1048576 < n) = false := by simp; omega
  by_cases hlong : 4096 < c.length
  · have HL := hid (litM_long hno hlong)
    have d3 : decide (4096 < (c.length : Int)) = true := by simp; omega
    generalize c.length = L at *
    clear hr hb hno
    go_enter Tryd.func36, Tryd.ntmps36
    go_wp2
    go_ret
    exact ⟨by rw [HL.out]; rfl, rfl⟩
  have d3 : decide (4096 < (c.length : Int)) = false := by simp; omega
  have HNO := hid hno; have HLG := hid hlong; have HR := hid hr; have HB := hid hb
  obtain ⟨L, hL⟩ : ∃ L, c.length = L := ⟨_, rfl⟩
  have HLL := hid hL
  rw [hL] at d3 h1 h3 ⊢
  have hL4 : L ≤ 4096 := by omega
  clear hno hr hb hL hlong
  go_enter Tryd.func36, Tryd.ntmps36
  go_wp2_with fail
  go_loopw [5] (fun i wr => ∃ k : Nat, k ≤ L ∧ i = .int .i64 (k : Int) ∧ wr = w ∧ ∀ j (hj : j < c.length), j < k → badL n c[j] = false) (fun i _ => L - (intOf i).toNat)
  case atStart => exact ⟨0, by omega, rfl, rfl, fun j hj h => by omega⟩
  case round =>
    obtain ⟨k, hk, rfl, rfl, hbk⟩ := hrel
    by_cases hlt : k < L
    · have hkd : decide ((k : Int) < (L : Int)) = true := by simp; omega
      have hkc : k < c.length := by have := HLL.out; omega
      obtain ⟨bk, off, rfl, hR1, hcell⟩ := HR.out.at k (by simpa using hkc)
      have hck := hcell k (by simpa using hkc)
      rw [List.getElem_map] at hck
      have hbd := HB.out _ (List.getElem_mem hkc)
      obtain ⟨a, ha⟩ : ∃ a, c[k] = a := ⟨_, rfl⟩
      rw [ha] at hck hbd
      have HS := hid (rsize_any a wr hbd.1 hbd.2)
      have HBK := hid hbk; have HA := hid ha
      clear hcell hR1 hbk ha
      by_cases ha0 : a = 0
      · have HL := hid (litM_bad HNO.out HLG.out k hkc (by rw [HA.out, ha0]; rfl))
        have e0 : (a == 0) = true := by simp [ha0]
        clear hbd
        go_wp2_with fail
        go_ret
        exact ⟨by rw [HL.out]; rfl, rfl⟩
      · have e0 : (a == 0) = false := by simp [ha0]
        obtain ⟨q, hq⟩ : ∃ q, a.natAbs = q := ⟨_, rfl⟩
        rw [hq] at HS
        by_cases hgt : n < (q : Int)
        · have HL := hid (litM_bad HNO.out HLG.out k hkc (by rw [HA.out]; unfold badL; rw [hq]; simp [hgt]))
          have e1 : decide (n < (q : Int)) = true := by simp [hgt]
          clear hbd hq
          go_wp2_with (go_at_call 46; refine HS.out.mono ?_; rintro e w5 ⟨rfl, rfl⟩)
          go_ret
          exact ⟨by rw [HL.out]; rfl, rfl⟩
        · have HOK := hid (show badL n c[k] = false from by rw [HA.out]; unfold badL; rw [hq]; simp [ha0, hgt])
          have e1 : decide (n < (q : Int)) = false := by simp; omega
          clear hbd hq
          go_wp2_with (go_at_call 46; refine HS.out.mono ?_; rintro e w5 ⟨rfl, rfl⟩)
          go_roundw
          case rel =>
            refine ⟨k + 1, by omega, by go_num, (by first | rfl | trivial), fun j hj hjk => ?_⟩
            by_cases hjk2 : j < k
            · exact HBK.out j hj hjk2
            · obtain rfl : j = k := by omega
              exact HOK.out
          case measure => (simp [intOf] <;> omega)
    · obtain rfl : k = L := by omega
      have HL := hid (litM_ok HNO.out HLG.out (fun j hj => hbk j hj (by have := HLL.out; omega)))
      clear hbk
      go_wp2
      go_ret
      exact ⟨by rw [HL.out]; rfl, rfl⟩

end Go.Proofs.YtfllhhgnflpagaaDoor
