/-
  The walk of MuldivFew.
-/
import Derived.Test.YtngimdbjcelkeaaMl2
namespace Go.Proofs.Ytngimdbjcelkeaa
set_option linter.unusedSimpArgs false
set_option linter.unusedVariables false
open Go.RowKit Go.Shelf

/-- A formula that is read, in its box. -/
theorem Bas.form {w0 w w' : World} {bb n V K : Nat} {vin vval : Value} {σ : Nat → Bool} {F : Form} (h : Bas w0 bb n vin vval V K w σ F) (hb : Below w.heap.size w w') (p : Option Addr) (c : Nat) (W' : World) (hW : w'.alloc (.cells #[.int .i64 (F.vars : Int), .slice p F.cls.length c] 52) = W') :
    Bas w0 bb n vin vval V K W' σ F ∧ FrB bb w W' ∧ Own bb W' w'.heap.size (.cells #[.int .i64 (F.vars : Int), .slice p F.cls.length c] 52 (0, 0)) := by
  have h1 := h.fr hb
  subst hW
  have hb2 : Below w'.heap.size w' (w'.alloc (.cells #[.int .i64 (F.vars : Int), .slice p F.cls.length c] 52)) := (Below.refl _ _).alloc (Nat.le_refl _) _
  exact ⟨h1.fr hb2, (FrB.of_below h.st.c.b hb).trans (FrB.of_below h1.st.c.b hb2), ⟨h1.st.c.b.away_new hb2 (Nat.le_refl _) (by simp), by rw [heap_al, if_pos rfl]⟩⟩
attribute [local go_sem] Oper.semAt_some

set_option maxRecDepth 100000 in
set_option maxHeartbeats 6400000 in
theorem mfew_walk (z : Int) (vals : List Bool) (lx ly : List Int) (vv vx vy : Value) (w : World) (hz : -9223372036854775808 ≤ z ∧ z ≤ 9223372036854775807)
    (hv : Bools (· < w.heap.size) w vv vals) (hx : Ints (· < w.heap.size) w vx lx) (hy : Ints (· < w.heap.size) w vy ly)
    (hlx : ∀ x ∈ lx, -9223372036854775808 ≤ x ∧ x ≤ 9223372036854775807) (hly : ∀ x ∈ ly, -9223372036854775808 ≤ x ∧ x ≤ 9223372036854775807) :
    Calls Try.prog 13 #[.agg #[.int .i64 z, vv, vx, vy]] w fun e w' => e = .returned (.bool true) ∧ Below w.heap.size w w' := by
  have hmk := fun (wc : World) (hbc : Below w.heap.size w wc) => make_mk (z % 18) vals lx ly vv vx vy wc (by omega) (hv.keep fun k hk => ⟨Nat.lt_of_lt_of_le hk hbc.size, hbc.block k hk⟩) (hx.keep fun k hk => ⟨Nat.lt_of_lt_of_le hk hbc.size, hbc.block k hk⟩) (hy.keep fun k hk => ⟨Nat.lt_of_lt_of_le hk hbc.size, hbc.block k hk⟩) hlx hly (((z % 18) % 64).toNat + 1) rfl
  have hW1 : 1 ≤ ((z % 18) % 64).toNat + 1 := by omega
  have hW18 : ((z % 18) % 64).toNat + 1 ≤ 18 := by omega
  generalize ((z % 18) % 64).toNat + 1 = W at *
  obtain ⟨pv, cv, rfl, _, _, _, _⟩ := hv.op
  obtain ⟨px, cx, rfl, _, _, _, _⟩ := hx.op
  obtain ⟨py, cy, rfl, _, _, _, _⟩ := hy.op
  have hW64 : W ≤ 64 := by omega
  have HMK := hid hmk
  have HCUT := hid (fun w' => cut_any z pv px py vals.length cv lx.length cx ly.length cy w' hz)
  have hb0 : Below w.heap.size w (w.alloc (.cells #[.int .i64 z, .slice pv vals.length cv, .slice px lx.length cx, .slice py ly.length cy] 25)) := (Below.refl _ _).alloc (Nat.le_refl _) _
  have HB0 := hid hb0
  clear hmk hv hx hy hlx hly hb0
  go_enter Try.func13, Try.ntmps13
  go_wp2_with fail
  (with_reducible refine (HCUT.out _).mono ?_)
  rintro e wc ⟨rfl, hbc⟩
  have hbc := below_tr' HB0.out hbc (by simp)
  have HMC := hid (HMK.out wc hbc)
  have HBC := hid hbc
  clear hbc HMK HCUT HB0
  go_wp2_with fail
  (with_reducible refine HMC.out.mono ?_)
  rintro e w3 ⟨bb, σ0, vin, vval, v1, v2, va, vb, xs, ys, rfl, hC, hxl, hyl, hxo, hyo, ix, iy, ia, ib, hbe, hbb, hlo⟩
  obtain ⟨pi, ci, rfl, _, _, _⟩ := hC.inp.opn (insM_len _)
  obtain ⟨pw, cw, rfl, _, _, _⟩ := hC.val.opn (valsM_len _ _)
  obtain ⟨p1, c1, rfl, _, _, _⟩ := ix.opn hxl
  obtain ⟨p2, c2, rfl, _, _, _⟩ := iy.opn hyl
  obtain ⟨p3, c3, rfl, _, _, _⟩ := ia.opn (n := W) (by rw [List.length_map]; exact hxl)
  obtain ⟨p4, c4, rfl, _, _, _⟩ := ib.opn (n := W) (by rw [List.length_map]; exact hyl)
  have HB3 := hid (show Bas wc bb (2 * W) _ _ (2 * W + 1) 1 w3 σ0 ⟨2 * W + 1, [[1]]⟩ from ⟨St.mk hC hbe hlo, Nat.le_refl _, Nat.le_refl _⟩)
  have HAL := hid (show (xs.map (litT σ0)).length = W by rw [List.length_map, hxl])
  have HBL := hid (show (ys.map (litT σ0)).length = W by rw [List.length_map, hyl])
  have HK3 := hid (((Kit.nil (bb := bb)).word iy (show LitsAre σ0 ⟨2 * W + 1, [[1]]⟩ ys _ from ⟨hyo, rfl⟩)).word ix (show LitsAre σ0 ⟨2 * W + 1, [[1]]⟩ xs _ from ⟨hxo, rfl⟩))
  have HIA3 := hid ia
  have HIB3 := hid ib
  clear hC hbe hlo hxl hyl hxo hyo ix iy ia ib hbb
  generalize xs.map (litT σ0) = ax at *
  generalize ys.map (litT σ0) = ay at *
  go_wp2_with fail
  obtain ⟨hB4, hT4, hsz4, hf4⟩ := HB3.out.box _ rfl
  generalize hw4 : World.alloc w3 _ = w4 at *
  clear hw4
  have HB := hid hB4; have HT := hid hT4; have HK := hid (HK3.out.fr hf4); have HIA := hid (HIA3.out.fr hf4); have HIB := hid (HIB3.out.fr hf4)
  have hS4 := hT4.boxS
  have hq1 : W * W ≤ 324 := by
    have := Nat.mul_le_mul hW18 hW18
    omega
  have hq2 : 3 * W * (W - 1) ≤ 918 := by
    have := Nat.mul_le_mul (show 3 * W ≤ 54 by omega) (show W - 1 ≤ 17 by omega)
    omega
  have hq3 : 18 * W * (W - 1) ≤ 5508 := by
    have := Nat.mul_le_mul (show 18 * W ≤ 324 by omega) (show W - 1 ≤ 17 by omega)
    omega
  have hq4 : W * (6 * W + 1) ≤ 1962 := by
    have := Nat.mul_le_mul hW18 (show 6 * W + 1 ≤ 109 by omega)
    omega
  have hq5 : W * (36 * W + 6) ≤ 11772 := by
    have := Nat.mul_le_mul hW18 (show 36 * W + 6 ≤ 654 by omega)
    omega
  have HQ := hid (And.intro hq1 (And.intro hq2 (And.intro hq3 (And.intro hq4 hq5))))
  clear hB4 hT4 hsz4 hf4 HB3 HK3 HIA3 HIB3 HMC hq1 hq2 hq3 hq4 hq5
  generalize (⟨2 * W + 1, [[1]]⟩ : Form) = F4 at *
  have hS := hS4
  clear hS4
  obtain ⟨hq1, hq2, hq3, hq4, hq5⟩ := HQ.out
  have HC := hid (formula_any bb F4 _ HB.out.st.c.b (good_len HB.out.st.c.good))
  obtain ⟨b0, b1, b2⟩ := hS
  go_wp2_with fail
  (with_reducible refine HC.out.mono ?_)
  rintro e wf1 ⟨vc1, rfl, hLL, hbf⟩
  obtain ⟨pf1, cf1, vs1, rfl, _, _, _, _, _, _⟩ := hLL.op
  obtain ⟨wo1, hwo1⟩ : ∃ w', wf1.alloc (.cells #[.int .i64 (F4.vars : Int), .slice pf1 F4.cls.length cf1] 52) = w' := ⟨_, rfl⟩
  obtain ⟨hB, hf, hO⟩ := HB.out.form hbf pf1 cf1 wo1 hwo1
  have hT := HT.out.fr hf
  have hK := HK.out.fr hf
  have hS1 := hT.boxS
  have HWO1 := hid hwo1
  have HO1 := hid hO
  clear HB HT HK HC b0 b1 b2 hLL hbf hwo1 hO
  have HB := hid hB; have HT := hid hT; have HK := hid hK; have hS := hS1
  clear hB hT hK hf hS1
  have HC := hid (mul_c HB.out (m := W) hW1 hW64 (HK.out.w (.slice p1 W c1, xs, ax) (by simp)).1 (HK.out.w (.slice p2 W c2, ys, ay) (by simp)).1 (HK.out.w (.slice p1 W c1, xs, ax) (by simp)).2 (HK.out.w (.slice p2 W c2, ys, ay) (by simp)).2 HAL.out HBL.out (by omega) (by omega))
  obtain ⟨b0, b1, b2⟩ := (show BoxS _ _ _ _ _ from hS)
  rw [← HWO1.out] at b0 b1 b2
  go_wp2_with fail
  rw [HWO1.out]
  (with_reducible refine HC.out.mono ?_)
  rintro e w5 ⟨v5, zs5, σ5, F5, rfl, hB, hi, hl, hf, hx⟩
  have hz : zs5.length = W := by rw [hl.len]; exact ofB_len _ _
  obtain ⟨p5, c5, rfl, _, _, _⟩ := hi.opn hz
  have hT := HT.out.fr hf
  have hK := HK.out.step hf hx
  have hS5 := hT.boxS
  have ho1 := HO1.out.fr hf
  have hv5 := And.intro hx.v0 hx.v1; have hc5 := And.intro hx.c0 hx.c1
  clear HB HT HK HC HO1 HWO1 hS b0 b1 b2
  have HB := hid hB; have HT := hid hT; have HK := hid hK; have HO1 := hid ho1; have hS := hS5
  clear hB hT hK hf hx hi hl hz ho1 hS5
  have HC := hid (formula_any bb F5 _ HB.out.st.c.b (good_len HB.out.st.c.good))
  obtain ⟨b0, b1, b2⟩ := hS
  go_wp2_with fail
  (with_reducible refine HC.out.mono ?_)
  rintro e wf2 ⟨vc2, rfl, hLL, hbf⟩
  obtain ⟨pf2, cf2, vs2, rfl, _, _, _, _, _, _⟩ := hLL.op
  obtain ⟨wo2, hwo2⟩ : ∃ w', wf2.alloc (.cells #[.int .i64 (F5.vars : Int), .slice pf2 F5.cls.length cf2] 52) = w' := ⟨_, rfl⟩
  obtain ⟨hB, hf, hO⟩ := HB.out.form hbf pf2 cf2 wo2 hwo2
  have hT := HT.out.fr hf
  have hK := HK.out.fr hf
  have hS2 := hT.boxS
  have HWO2 := hid hwo2
  have HO2 := hid hO
  have ho1 := HO1.out.fr hf
  clear HB HT HK HC b0 b1 b2 hLL hbf hwo2 hO
  clear HO1
  have HO1 := hid ho1
  clear ho1
  have HB := hid hB; have HT := hid hT; have HK := hid hK; have hS := hS2
  clear hB hT hK hf hS2
  have HC := hid (div_c HB.out (m := W) hW1 hW64 (HK.out.w (.slice p1 W c1, xs, ax) (by simp)).1 (HK.out.w (.slice p2 W c2, ys, ay) (by simp)).1 (HK.out.w (.slice p1 W c1, xs, ax) (by simp)).2 (HK.out.w (.slice p2 W c2, ys, ay) (by simp)).2 HAL.out HBL.out (by omega) (by omega))
  obtain ⟨b0, b1, b2⟩ := (show BoxS _ _ _ _ _ from hS)
  rw [← HWO2.out] at b0 b1 b2
  go_wp2_with fail
  rw [HWO2.out]
  (with_reducible refine HC.out.mono ?_)
  rintro e w6 ⟨v6, zs6, u6, us6, σ6, F6, rfl, hB, hi, hl, hi2, hl2, hf, hx⟩
  have hz : zs6.length = W := by rw [hl.len]; exact ofB_len _ _
  have hz2 : us6.length = W := by rw [hl2.len]; exact ofB_len _ _
  obtain ⟨p6, c6, rfl, _, _, _⟩ := hi.opn hz
  obtain ⟨q6, d6, rfl, _, _, _⟩ := hi2.opn hz2
  have hT := HT.out.fr hf
  have hK := HK.out.step hf hx
  have hS6 := hT.boxS
  have ho1 := HO1.out.fr hf
  have ho2 := HO2.out.fr hf
  have hv6 := And.intro hx.v0 hx.v1; have hc6 := And.intro hx.c0 hx.c1
  clear HB HT HK HC HO1 HO2 HWO2 hS b0 b1 b2
  have HB := hid hB; have HT := hid hT; have HK := hid hK; have HO1 := hid ho1; have HO2 := hid ho2; have hS := hS6
  clear hB hT hK hf hx hi hl hz hi2 hl2 hz2 ho1 ho2 hS6
  have HC := hid (formula_any bb F6 _ HB.out.st.c.b (good_len HB.out.st.c.good))
  obtain ⟨b0, b1, b2⟩ := hS
  go_wp2_with fail
  (with_reducible refine HC.out.mono ?_)
  rintro e wf3 ⟨vc3, rfl, hLL, hbf⟩
  obtain ⟨pf3, cf3, vs3, rfl, _, _, _, _, _, _⟩ := hLL.op
  obtain ⟨wo3, hwo3⟩ : ∃ w', wf3.alloc (.cells #[.int .i64 (F6.vars : Int), .slice pf3 F6.cls.length cf3] 52) = w' := ⟨_, rfl⟩
  obtain ⟨hB, hf, hO⟩ := HB.out.form hbf pf3 cf3 wo3 hwo3
  have hT := HT.out.fr hf
  have hK := HK.out.fr hf
  have hS3 := hT.boxS
  have HWO3 := hid hwo3
  have HO3 := hid hO
  have ho1 := HO1.out.fr hf
  have ho2 := HO2.out.fr hf
  clear HB HT HK HC b0 b1 b2 hLL hbf hwo3 hO
  clear HO1
  have HO1 := hid ho1
  clear ho1
  clear HO2
  have HO2 := hid ho2
  clear ho2
  have HB := hid hB; have HT := hid hT; have HK := hid hK; have hS := hS3
  clear hB hT hK hf hS3
  have v6 := HB.out.st.c.b.vars
  have k6 := HB.out.st.c.b.cls
  have o1 := HO1.out.2; have o2 := HO2.out.2; have o3 := HO3.out.2
  have a0 : wo3.cell? ⟨wf1.heap.size, 0, none⟩ = some (.int .i64 (F4.vars : Int)) := by rw [cell_of_cells o1]; rfl
  have a1 : wo3.cell? ⟨wf1.heap.size, 1, none⟩ = some (.slice pf1 F4.cls.length cf1) := by rw [cell_of_cells o1]; rfl
  have a2 : wo3.cell? ⟨wf2.heap.size, 0, none⟩ = some (.int .i64 (F5.vars : Int)) := by rw [cell_of_cells o2]; rfl
  have a3 : wo3.cell? ⟨wf2.heap.size, 1, none⟩ = some (.slice pf2 F5.cls.length cf2) := by rw [cell_of_cells o2]; rfl
  have a4 : wo3.cell? ⟨wf3.heap.size, 0, none⟩ = some (.int .i64 (F6.vars : Int)) := by rw [cell_of_cells o3]; rfl
  have a5 : wo3.cell? ⟨wf3.heap.size, 1, none⟩ = some (.slice pf3 F6.cls.length cf3) := by rw [cell_of_cells o3]; rfl
  rw [← HWO3.out] at a0 a1 a2 a3 a4 a5
  clear o1 o2 o3
  have e1 : (32 : Int) * (W : Int) * (W : Int) = ((32 * (W * W) : Nat) : Int) := by rw [Int.mul_assoc]; simp
  have e2 : (128 : Int) * (W : Int) * (W : Int) = ((128 * (W * W) : Nat) : Int) := by rw [Int.mul_assoc]; simp
  obtain ⟨A1, hA1⟩ : ∃ A1, 32 * (W * W) = A1 := ⟨_, rfl⟩
  obtain ⟨A2, hA2⟩ : ∃ A2, 128 * (W * W) = A2 := ⟨_, rfl⟩
  obtain ⟨U1, hU1⟩ : ∃ U1 : Nat, A1 + 128 * W = U1 := ⟨_, rfl⟩
  obtain ⟨U2, hU2⟩ : ∃ U2 : Nat, A2 + 512 * W = U2 := ⟨_, rfl⟩
  rw [hA1] at e1
  rw [hA2] at e2
  have e3 : (A1 : Int) + 128 * (W : Int) = (U1 : Int) := by omega
  have e4 : (A2 : Int) + 512 * (W : Int) = (U2 : Int) := by omega
  have w1 : A1 ≤ 10368 := by omega
  have w2 : A2 ≤ 41472 := by omega
  have w3' : U1 ≤ 12672 := by omega
  have w4' : U2 ≤ 50688 := by omega
  have r1 : 3 * W * (W - 1) ≤ 3 * (W * W) := by rw [Nat.mul_assoc]; exact Nat.mul_le_mul_left 3 (Nat.mul_le_mul_left W (by omega))
  have r2 : 18 * W * (W - 1) ≤ 18 * (W * W) := by rw [Nat.mul_assoc]; exact Nat.mul_le_mul_left 18 (Nat.mul_le_mul_left W (by omega))
  have r3 : W * (6 * W + 1) = 6 * (W * W) + W := by rw [Nat.mul_add, Nat.mul_one, ← Nat.mul_assoc, Nat.mul_comm W 6, Nat.mul_assoc]
  have r4 : W * (36 * W + 6) = 36 * (W * W) + 6 * W := by rw [Nat.mul_add, ← Nat.mul_assoc, Nat.mul_comm W 36, Nat.mul_assoc, Nat.mul_comm W 6]
  have t1 : decide ((F5.vars : Int) ≤ (F4.vars : Int) + (U1 : Int)) = true := by simp; omega
  have t2 : decide ((F6.vars : Int) ≤ (F5.vars : Int) + (U1 : Int)) = true := by simp; omega
  have t3 : decide ((F5.cls.length : Int) ≤ (F4.cls.length : Int) + (U2 : Int)) = true := by simp; omega
  have t4 : decide ((F6.cls.length : Int) ≤ (F5.cls.length : Int) + (U2 : Int)) = true := by simp; omega
  have n4 : F4.vars ≤ 1048576 := by omega
  have n5 : F5.vars ≤ 1048576 := by have := HB.out.st.c.b.vars; omega
  have m4 : F4.cls.length ≤ 1048576 := by omega
  have m5 : F5.cls.length ≤ 1048576 := by have := HB.out.st.c.b.cls; omega
  have HFR := hid (below_tr' HBC.out HB.out.st.fr (Nat.le_refl _))
  clear hA1 hA2 hU1 hU2 r1 r2 r3 r4 hq1 hq2 hq3 hq4 hq5 hv5 hc5 hv6 hc6 HQ HB HT HK HO1 HO2 HO3 HIA HIB
  go_wp2_with fail
  rw [HWO3.out]
  (with_reducible refine (awake17_any _).mono ?_)
  rintro e w9 ⟨rfl, hb9⟩
  have HF := hid (below_tr' HFR.out hb9 (Nat.le_refl _))
  clear hb9
  go_wp2
  go_ret
  exact ⟨rfl, HF.out⟩
end Go.Proofs.Ytngimdbjcelkeaa
