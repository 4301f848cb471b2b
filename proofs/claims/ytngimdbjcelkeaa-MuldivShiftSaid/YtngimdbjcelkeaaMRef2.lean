/-
  The references of layers 16 and 17: the walks of Value, Of, Div.
-/
import Derived.Test.YtngimdbjcelkeaaMRef
namespace Go.Proofs.Ytngimdbjcelkeaa
set_option linter.unusedSimpArgs false
set_option linter.unusedVariables false
open Go.RowKit Go.Shelf

set_option maxHeartbeats 800000 in
theorem refvalue_any (vx : Value) (xs : List Bool) (R : Nat → Prop) (w : World) (hx : Bools R w vx xs) (h64 : xs.length ≤ 64) :
    Calls Try.prog 104 #[vx] w fun e w' => e = .returned (.int .u64 (valB xs : Nat)) ∧ w = w' := by
  obtain ⟨px, cx, rfl, _, _, _, hrx⟩ := hx.op
  clear hx
  go_enter Try.func104, Try.ntmps104
  go_wp2_with fail
  go_loop [3, 4] (fun v i => ∃ (j : Nat), j ≤ xs.length ∧ i = .int .i64 j ∧ v = .int .u64 (valB (xs.take j) : Nat)) (fun _ i => xs.length - (intOf i).toNat)
  case atStart => exact ⟨0, Nat.zero_le _, rfl, rfl⟩
  case round =>
    obtain ⟨j, hj, rfl, rfl⟩ := hrel
    by_cases hlt : j < xs.length
    · obtain ⟨b, off, rfl, _, hc⟩ := hrx.atB j hlt
      have hcell := hc j hlt
      have hvt := valB_take xs j hlt
      have hvl := valB_lt (xs.take (j + 1))
      have hle : 2 ^ (xs.take (j + 1)).length ≤ 2 ^ 64 := Nat.pow_le_pow_right (by decide) (by simp; omega)
      have hvb : valB (xs.take (j + 1)) < 18446744073709551616 := by
        have : (2 : Nat) ^ 64 = 18446744073709551616 := by decide
        omega
      have HVT := hid hvt; have HVB := hid hvb
      clear hvt hc hvl hle hvb
      generalize xs[j] = bx at *
      generalize valB (xs.take j) = v0 at *
      have hj64 : (j : Int) < 64 := by omega
      have hv0 : v0 < 18446744073709551616 := by have := HVB.out; have := HVT.out; omega
      cases bx
      · go_wp2
        go_round
        case rel => exact ⟨j + 1, by omega, by go_num, by rw [HVT.out]; simp⟩
        case measure => simp [intOf]; omega
      · go_wp2
        go_round
        case rel => exact ⟨j + 1, by omega, by go_num, by rw [HVT.out]; exact congrArg (Value.int .u64) (shl_add v0 j (by have := HVB.out; have := HVT.out; simp at this; omega))⟩
        case measure => simp [intOf]; omega
    · obtain rfl : j = xs.length := by omega
      rw [List.take_of_length_le (Nat.le_refl _)]
      go_wp2
      go_ret
      exact ⟨rfl, rfl⟩

theorem ofB_get : ∀ (n v k : Nat) (h : k < n), (ofB n v)[k]'(by rw [ofB_len]; exact h) = decide (v / 2 ^ k % 2 = 1)
  | n + 1, v, 0, h => by simp [ofB]
  | n + 1, v, k + 1, h => by
    simp only [ofB, List.getElem_cons_succ]
    rw [ofB_get n (v / 2) k (by omega), Nat.div_div_eq_div_mul, Nat.pow_succ, Nat.mul_comm 2]
theorem ofB_take (n v k : Nat) (h : k < n) : (ofB n v).take (k + 1) = (ofB n v).take k ++ [decide (v / 2 ^ k % 2 = 1)] := by
  rw [List.take_succ_eq_append_getElem (by rw [ofB_len]; exact h), ofB_get n v k h]

theorem bit_and (x : Nat) (hx : x < 18446744073709551616) : (bits BinOp.and IntKind.u64 (x : Int) 1 == 1) = decide (x % 2 = 1) := by
  have h := and_mask (x : Int) 1 (by omega)
  rw [IntWalk.u64_in _ (by omega)] at h
  have e : (((2 ^ 1 - 1 : Nat) : Int)) = 1 := rfl
  rw [e] at h
  rw [h]
  have e2 : ((x : Int) % ((2 ^ 1 : Nat) : Int)) = ((x % 2 : Nat) : Int) := by simp
  rw [e2, Bool.eq_iff_iff, beq_iff_eq, decide_eq_true_iff]
  omega
theorem bit_of (v k : Nat) (hv : v < 18446744073709551616) : (bits BinOp.and IntKind.u64 ((v : Int) / 2 ^ k) 1 == 1) = decide (v / 2 ^ k % 2 = 1) := by
  have e : (v : Int) / 2 ^ k = ((v / 2 ^ k : Nat) : Int) := by simp
  rw [e]
  exact bit_and _ (Nat.lt_of_le_of_lt (Nat.div_le_self _ _) hv)

set_option maxHeartbeats 800000 in
theorem refof_any (n v : Nat) (w : World) (hn : n ≤ 64) (hv : v < 18446744073709551616) :
    Calls Try.prog 105 #[.int .i64 (n : Int), .int .u64 (v : Int)] w fun e w' => ∃ u, e = .returned u ∧ w'.ownsRow w.heap.size 4 1 u n ((ofB n v).map Value.bool) ∧ Below w.heap.size w w' := by
  go_enter Try.func105, Try.ntmps105
  go_wp2_with fail
  go_loopw [5, 6] (fun u i wr => ∃ (k : Nat), k ≤ n ∧ i = .int .i64 k ∧ wr.ownsRow w.heap.size 4 1 u k (((ofB n v).take k).map Value.bool) ∧ Below w.heap.size w wr) (fun _ i _ => n - (intOf i).toNat)
  case atStart => exact ⟨0, Nat.zero_le _, rfl, World.ownsRow_nil _ _ _ _, Below.refl _ _⟩
  case round =>
    obtain ⟨k, hk, rfl, hown, hbel⟩ := hrel
    obtain ⟨wo, rfl⟩ : ∃ wo : World, wo = wr := ⟨_, rfl⟩
    obtain ⟨po, co, rfl⟩ := own_slice hown
    have HO := hid hown; have HBE := hid hbel
    have hws := hbel.size
    clear hown hbel
    by_cases hlt : k < n
    · have HSN := hid (ofB_take n v k hlt)
      have hk64 : (k : Int) < 64 := by omega
      have eb := bit_of v k hv
      generalize decide (v / 2 ^ k % 2 = 1) = bk at *
      go_wp2_with (at_builtin; refine wpList_app _ rfl (.tmp 12) (.tmp 19) 22 rfl w.heap.size 4 (.bool false) 1 Try.underlying22 info_bool rfl _ k _ rfl (HO.out.alloc _) (some ⟨wo.heap.size, 0, none⟩) 1 1 [.bool bk] rfl rfl (RowR.one _ _ _) (by simp [Value.oneCell']) (by omega) (by unfold maxLen; omega) (by rw [World.size_alloc]; omega) ?_; intro v' w6 hown6 hg6 _; have HO6 := hid hown6; have HG6 := hid hg6; clear hown6 hg6)
      go_roundw
      case rel => exact ⟨k + 1, by omega, by go_num, by rw [HSN.out, List.map_append]; exact HO6.out, below_one HBE.out hws HG6.out (fun j hj => (HO.out.lt _ hj).1)⟩
      case measure => simp [intOf]; omega
    · obtain rfl : k = n := by omega
      go_wp2
      go_ret
      have h1 := HO.out
      rw [List.take_of_length_le (by rw [ofB_len]; exact Nat.le_refl _)] at h1
      exact ⟨_, rfl, h1, HBE.out⟩

theorem any_val (l : List Bool) : l.any id = decide (valB l ≠ 0) := by
  induction l with
  | nil => rfl
  | cons b l ih =>
    rw [List.any_cons, ih, valB]
    cases b
    · simp; omega
    · simp

/-- What the reference's Div leaves. -/
def RefDivP (w : World) (m : Nat) (qs rs : List Bool) (e : Ending) (w' : World) : Prop :=
  ∃ v1 v2, e = .returned (.tuple #[v1, v2]) ∧ w'.ownsRow w.heap.size 4 1 v1 m (qs.map Value.bool) ∧ Bools (New w w') w' v2 rs ∧ Below w.heap.size w w'

set_option maxRecDepth 100000 in
set_option maxHeartbeats 1600000 in
theorem refdiv_any (vx vy : Value) (xs ys : List Bool) (m : Nat) (R R' : Nat → Prop) (w : World) (hR : ∀ k, R k → k < w.heap.size) (hR' : ∀ k, R' k → k < w.heap.size) (hx : Bools R w vx xs) (hy : Bools R' w vy ys) (hxl : xs.length = m) (hyl : ys.length = m) (hm : m ≤ 64) :
    Calls Try.prog 64 #[vx, vy] w (RefDivP w m (ofB m (divQ m (valB xs) (valB ys))) (ofB m (valB xs % valB ys))) := by
  have hany := refany_any vy ys R' w hR' hy (by omega)
  rw [any_val] at hany
  by_cases h0 : valB ys = 0
  · have hany' : Calls Try.prog 47 #[vy] w fun e w' => e = .returned (.bool false) ∧ w = w' := hany.mono fun e w' ⟨h1, h2⟩ => ⟨by rw [h1, h0]; rfl, h2.symm⟩
    obtain ⟨px, cx, rfl, _, _, hrx⟩ := hx.opn' hxl
    obtain ⟨py, cy, rfl, _, _, hry⟩ := hy.opn' hyl
    have hmk1 : ∀ w : World, (Instr.makeSlice 22 (.int .i64 (m : Int)) (.int .i64 (m : Int))).run Try.prog w = .ok (.slice (some ⟨w.heap.size, 0, none⟩) m m) (w.alloc (.cells (Array.replicate m (.bool false)) 4)) := fun w =>
      make_run (P := Try.prog) Try.underlying22 info_bool rfl m (by omega) (by omega) w
    have hb1 : Below w.heap.size w (w.alloc (.cells (Array.replicate m (.bool false)) 4)) := (Below.refl _ _).alloc (Nat.le_refl _) _
    have h1 : Bools (New w (w.alloc (.cells (Array.replicate m (.bool false)) 4))) (w.alloc (.cells (Array.replicate m (.bool false)) 4)) (.slice (some ⟨w.heap.size, 0, none⟩) m m) (List.replicate m false) := by
      refine ⟨_, m, by rw [List.length_map, List.length_replicate], by simp, by unfold maxLen; omega, by simp; omega, .inr ⟨w.heap.size, 0, rfl, ⟨Nat.le_refl _, by simp⟩, fun j hj => ?_⟩⟩
      rw [Nat.zero_add, cell_lit]
      simp at hj ⊢
      simp [hj]
    have hn := refnot_own _ _ _ _ (fun k hk => hk.2) h1 (by rw [List.length_replicate]; omega)
    rw [List.length_replicate] at hn
    have eq : (List.replicate m false).map (!·) = ofB m (divQ m (valB xs) (valB ys)) := by
      refine ofB_eq (by simp) ?_
      rw [List.map_replicate, Bool.not_false, valB_true]
      unfold divQ
      rw [if_pos h0]
      have : 1 ≤ 2 ^ m := Nat.one_le_two_pow
      exact (Nat.mod_eq_of_lt (by omega)).symm
    have er : xs = ofB m (valB xs % valB ys) := by
      rw [h0, Nat.mod_zero, ← hxl]
      exact (ofB_valB xs).symm
    rw [eq] at hn
    have HANY := hid hany'; have HN := hid hn; have HER := hid er; have HB1 := hid hb1; have HRX := hid hrx; have HXL := hid hxl; have HR := hid hR
    clear hany hany' hn er eq h1 hb1 hrx hry hxl hyl hx hy h0 hR hR'
    go_enter Try.func64, Try.ntmps64
    go_wp2_with fail
    (with_reducible refine HANY.out.mono ?_)
    rintro e w' ⟨rfl, rfl⟩
    go_wp2_with fail
    (with_reducible refine HN.out.mono ?_)
    rintro e w2 ⟨v2, rfl, ho2, hb2⟩
    obtain ⟨p2, c2, rfl⟩ := own_slice ho2
    have hbw := below_tr' HB1.out hb2 (by simp)
    have hrx2 : RowR (fun _ => True) w2 px (xs.map Value.bool) := HRX.out.keep fun q hq => ⟨trivial, hbw.block q (HR.out q hq)⟩
    have HO2 := hid ho2; have HBW := hid hbw; have HRX2 := hid hrx2
    have hws := hbw.size
    clear ho2 hb2 hbw hrx2 HN HANY
    go_wp2_with (at_builtin; refine wpList_app _ rfl (.const (.slice none 0 0)) (.tmp 15) 22 rfl w2.heap.size 4 (.bool false) 1 Try.underlying22 info_bool rfl _ 0 _ rfl (World.ownsRow_nil _ _ _ _) px m cx _ rfl (by rw [List.length_map, HXL.out]) HRX2.out (bools_one _) (by omega) (by unfold maxLen; omega) (Nat.le_refl _) ?_; intro v3 w3 ho3 hg3 _; simp only [Nat.zero_add, List.nil_append] at ho3; obtain ⟨p3, c3, rfl⟩ := own_slice ho3; have HO3 := hid ho3; have HG3 := hid hg3; clear ho3 hg3)
    go_ret2
    have hb3 : Below w2.heap.size w2 w3 := (Below.refl _ _).grown HG3.out (Nat.le_refl _) (fun k hk => by cases hk)
    have hb23 := below_tr' HBW.out hb3 (Nat.le_refl _)
    have ho2' := owns_keep HO2.out (w' := w3) fun j hj => hb3.block j (HO2.out.lt j hj).2
    have h3 := bnew (w := w) HO3.out (by omega) hws
    rw [HER.out] at h3
    refine ⟨_, _, rfl, ?_, h3, hb23⟩
    refine ⟨ho2'.1, ?_⟩
    rcases ho2'.2 with h | ⟨g, cap, cur, h1, h2, h3⟩
    · exact .inl h
    · exact .inr ⟨g, cap, cur, h1, by have := HB1.out.size; omega, h3⟩
  · skip
    have hany' : Calls Try.prog 47 #[vy] w fun e w' => e = .returned (.bool true) ∧ w = w' := hany.mono fun e w' ⟨h1, h2⟩ => ⟨by rw [h1, decide_eq_true h0], h2.symm⟩
    have hvx := refvalue_any vx xs R w hx (by omega)
    have hvy := refvalue_any vy ys R' w hy (by omega)
    obtain ⟨px, cx, rfl, _, _, hrx⟩ := hx.opn' hxl
    obtain ⟨py, cy, rfl, _, _, hry⟩ := hy.opn' hyl
    have hX := valB_lt xs
    have hY := valB_lt ys
    rw [hxl] at hX
    rw [hyl] at hY
    have h2 : (2 : Nat) ^ m ≤ 18446744073709551616 := pow_le64 hm
    have eq : divQ m (valB xs) (valB ys) = valB xs / valB ys := by unfold divQ; rw [if_neg h0]
    rw [eq]
    generalize valB xs = X at *
    generalize valB ys = Y at *
    have hq : X / Y < 18446744073709551616 := Nat.lt_of_le_of_lt (Nat.div_le_self _ _) (by omega)
    have hr : X % Y < 18446744073709551616 := Nat.lt_of_le_of_lt (Nat.mod_le _ _) (by omega)
    have e1 : (X : Int) / (Y : Int) = ((X / Y : Nat) : Int) := by simp
    have e2 : (X : Int) % (Y : Int) = ((X % Y : Nat) : Int) := by simp
    have e3 : (X : Int).tdiv (Y : Int) = ((X / Y : Nat) : Int) := by rw [Int.tdiv_eq_ediv_of_nonneg (by omega)]; simp
    have e4 : (X : Int).tmod (Y : Int) = ((X % Y : Nat) : Int) := by rw [Int.tmod_eq_emod_of_nonneg (by omega)]; simp
    have HO1 := hid (refof_any m (X / Y) w.drew hm hq)
    have HO2 := hid (fun w1 => refof_any m (X % Y) w1 hm hr)
    generalize X / Y = Q at *
    generalize X % Y = T at *
    have ew1 : IntKind.u64.wrap (Q : Int) = (Q : Int) := IntWalk.u64_in _ (by omega)
    have ew2 : IntKind.u64.wrap (T : Int) = (T : Int) := IntWalk.u64_in _ (by omega)
    have hY0 : ¬ Y = 0 := h0
    have hz : ((Y : Int) == 0) = false := by rw [beq_eq_false_iff_ne]; omega
    have hX64 : X < 18446744073709551616 := by omega
    have hY64 : Y < 18446744073709551616 := by omega
    have HANY := hid hany'; have HVX := hid hvx; have HVY := hid hvy; have H0 := hid h0
    clear hany hany' hvx hvy hrx hry hxl hyl hx hy h0 hR hR' hX hY h2 eq
    go_enter Try.func64, Try.ntmps64
    go_wp2_with fail
    (with_reducible refine HANY.out.mono ?_)
    rintro e w' ⟨rfl, rfl⟩
    go_wp2_with fail
    (with_reducible refine HVX.out.mono ?_)
    rintro e w' ⟨rfl, rfl⟩
    go_wp2_with fail
    (with_reducible refine HVY.out.mono ?_)
    rintro e w' ⟨rfl, rfl⟩
    go_wp2_with fail
    have hS : (fun W1 : World => True) w.drew := trivial
    have hFa : ∀ f, Fence.wide.fn f := fun _ => trivial
    refine (wpIn_wide (n := 9)).1 ?_
    refine wpIn_onlyN ?_
    refine wpIn_region_HJ (fun W1 : World => True) 13 (by kernel_rfl) ?_
    simp only [List.size_toArray, List.length_cons, List.length_nil, Nat.reduceAdd]
    refine wpHJ_pure (v := ?va0) 0 hFa rfl (by kernel_rfl) (fun _ _ _ h => h.elim) (Or.inl ⟨by rfl, ?ya0⟩) (.inr hS) ?ra0
    case ya0 => (intro w' _; go_simp; try rfl)
    simp only [Act.put, List.getElem_toArray, List.getElem_cons_succ, List.getElem_cons_zero, List.setIfInBounds_toArray, List.set_cons_zero, List.set_cons_succ]
    refine wpHJ_pure (v := ?va1) 1 hFa rfl (by kernel_rfl) (fun _ _ _ h => h.elim) (Or.inl ⟨by rfl, ?ya1⟩) (.inr hS) ?ra1
    case ya1 => (intro w' _; go_simp; try rfl)
    simp only [Act.put, List.getElem_toArray, List.getElem_cons_succ, List.getElem_cons_zero, List.setIfInBounds_toArray, List.set_cons_zero, List.set_cons_succ]
    refine wpHJ_pure (v := ?va2) 2 hFa rfl (by kernel_rfl) (fun _ _ _ h => h.elim) (Or.inl ⟨by rfl, ?ya2⟩) (.inr hS) ?ra2
    case ya2 => (intro w' _; go_simp; try rfl)
    simp only [Act.put, List.getElem_toArray, List.getElem_cons_succ, List.getElem_cons_zero, List.setIfInBounds_toArray, List.set_cons_zero, List.set_cons_succ]
    refine wpHJ_pure (v := ?va3) 3 hFa rfl (by kernel_rfl) (fun _ _ _ h => h.elim) (Or.inl ⟨by rfl, ?ya3⟩) (.inr hS) ?ra3
    case ya3 => (intro w' _; go_simp; try rfl)
    simp only [Act.put, List.getElem_toArray, List.getElem_cons_succ, List.getElem_cons_zero, List.setIfInBounds_toArray, List.set_cons_zero, List.set_cons_succ]
    refine wpHJ_pure (v := ?va4) 4 hFa rfl (by kernel_rfl) (fun _ _ _ h => h.elim) (Or.inl ⟨by rfl, ?ya4⟩) (.inr hS) ?ra4
    case ya4 => (intro w' _; go_simp; try rfl)
    simp only [Act.put, List.getElem_toArray, List.getElem_cons_succ, List.getElem_cons_zero, List.setIfInBounds_toArray, List.set_cons_zero, List.set_cons_succ]
    refine wpHJ_pure (v := ?va6) 6 hFa rfl (by kernel_rfl) (fun _ _ _ h => h.elim) (Or.inl ⟨by rfl, ?ya6⟩) (.inr hS) ?ra6
    case ya6 => (intro w' _; go_simp; try rfl)
    simp only [Act.put, List.getElem_toArray, List.getElem_cons_succ, List.getElem_cons_zero, List.setIfInBounds_toArray, List.set_cons_zero, List.set_cons_succ]
    refine wpHJ_pure (v := ?va7) 7 hFa rfl (by kernel_rfl) (fun _ _ _ h => h.elim) (Or.inl ⟨by rfl, ?ya7⟩) (.inr hS) ?ra7
    case ya7 => (intro w' _; go_simp; try rfl)
    simp only [Act.put, List.getElem_toArray, List.getElem_cons_succ, List.getElem_cons_zero, List.setIfInBounds_toArray, List.set_cons_zero, List.set_cons_succ]
    refine wpHJ_pure (v := ?va8) 8 hFa rfl (by kernel_rfl) (fun _ _ _ h => h.elim) (Or.inl ⟨by rfl, ?ya8⟩) (.inr hS) ?ra8
    case ya8 => (intro w' _; go_simp; try rfl)
    simp only [Act.put, List.getElem_toArray, List.getElem_cons_succ, List.getElem_cons_zero, List.setIfInBounds_toArray, List.set_cons_zero, List.set_cons_succ]
    refine wpHJ_pure (v := ?va9) 9 hFa rfl (by kernel_rfl) (fun _ _ _ h => h.elim) (Or.inl ⟨by rfl, ?ya9⟩) (.inr hS) ?ra9
    case ya9 => (intro w' _; go_simp; try rfl)
    simp only [Act.put, List.getElem_toArray, List.getElem_cons_succ, List.getElem_cons_zero, List.setIfInBounds_toArray, List.set_cons_zero, List.set_cons_succ]
    refine wpHJ_pure (v := ?va10) 10 hFa rfl (by kernel_rfl) (fun _ _ _ h => h.elim) (Or.inl ⟨by rfl, ?ya10⟩) (.inr hS) ?ra10
    case ya10 => (intro w' _; go_simp; try rfl)
    simp only [Act.put, List.getElem_toArray, List.getElem_cons_succ, List.getElem_cons_zero, List.setIfInBounds_toArray, List.set_cons_zero, List.set_cons_succ]
    refine wpHJ_only 5 (by kernel_rfl) rfl ?_
    intro K hK
    go_simp
    (with_reducible refine (callsIn_wide.2 HO1.out).mono ?_)
    rintro e w1 ⟨v1, rfl, ho1, hb1⟩
    obtain ⟨p1, c1, rfl⟩ := own_slice ho1
    have HW1 := hid ho1; have HB1 := hid hb1
    clear ho1 hb1 HO1
    refine hK _ _ (.inr (.inr trivial)) ?_
    clear hK K
    refine wpHJ_only 11 (by kernel_rfl) rfl ?_
    intro K hK
    go_simp
    (with_reducible refine (callsIn_wide.2 (HO2.out _)).mono ?_)
    rintro e w2 ⟨v2, rfl, ho2, hb2⟩
    obtain ⟨p2, c2, rfl⟩ := own_slice ho2
    have hbw := below_tr' HB1.out hb2 (Nat.le_refl _)
    have HW2 := hid ho2; have HB2 := hid hb2; have HBW := hid hbw
    clear ho2 hb2 hbw HO2
    refine hK _ _ (.inr (.inr trivial)) ?_
    clear hK K
    refine wpHJ_pure (v := ?va12) 12 hFa rfl (by kernel_rfl) (fun _ _ _ h => h.elim) (Or.inl ⟨by rfl, ?ya12⟩) (.inr trivial) ?ra12
    case ya12 => (intro w' _; go_simp; try rfl)
    simp only [Act.put, List.getElem_toArray, List.getElem_cons_succ, List.getElem_cons_zero, List.setIfInBounds_toArray, List.set_cons_zero, List.set_cons_succ]
    refine wpHJ_only 13 (by kernel_rfl) rfl ?_
    intro K hK
    go_simp
    refine hK _ _ (.inl rfl) ?_
    clear hK K
    refine wpHJ_done (by kernel_rfl) ?_ _
    simp only [onlyN, Exit.then]
    clear hFa
    go_wp2
    go_ret2
    have hd : Below w.heap.size w w.drew := (Below.refl _ _).drew
    have hbw := HBW.out
    have ho1 := owns_keep HW1.out (w' := w2) fun j hj => HB2.out.block j (HW1.out.lt j hj).2
    exact ⟨_, _, rfl, ho1, bnew HW2.out (by omega) (by have := HB1.out.size; exact this), ⟨hbw.os, hbw.tape, hbw.output, hbw.size, hbw.block⟩⟩

end Go.Proofs.Ytngimdbjcelkeaa
