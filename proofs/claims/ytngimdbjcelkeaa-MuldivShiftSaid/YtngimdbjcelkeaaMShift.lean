/-
  The walk of MuldivShift.
-/
import Derived.Test.YtngimdbjcelkeaaMRef2
namespace Go.Proofs.Ytngimdbjcelkeaa
set_option linter.unusedSimpArgs false
set_option linter.unusedVariables false
open Go.RowKit Go.Shelf

def sg (k i : Nat) : Int := if i = k then 1 else -1
theorem sg_eq (k : Nat) : sg k k = 1 := if_pos rfl
theorem sg_ne {k i : Nat} (h : i ≠ k) : sg k i = -1 := if_neg h
def yk (k W : Nat) : List Int := (List.range W).map (sg k)
theorem yk_len (k W : Nat) : (yk k W).length = W := by simp [yk]
theorem yk_at (k W j : Nat) (h : j < W) : (yk k W).take (j + 1) = (yk k W).take j ++ [sg k j] := by
  rw [List.take_succ_eq_append_getElem (by rw [yk_len]; exact h)]
  simp [yk]
theorem ofB_bit (n v k : Nat) (h : k < n) : (ofB n v)[k]'(by rw [ofB_len]; exact h) = v.testBit k := by
  rw [ofB_get n v k h, Nat.testBit_eq_decide_div_mod_eq]
theorem valB_bit (a : List Bool) (i : Nat) (h : i < a.length) : (valB a).testBit i = a[i] := by
  have h1 := ofB_bit a.length (valB a) i h
  have h2 := ofB_valB a
  rw [← h1]
  simp only [h2]
theorem valB_hi (a : List Bool) (i : Nat) (h : a.length ≤ i) : (valB a).testBit i = false :=
  Nat.testBit_lt_two_pow (Nat.lt_of_lt_of_le (valB_lt a) (Nat.pow_le_pow_right (by omega) h))
theorem yk_lits {n : Nat} {σ : Nat → Bool} {F : Form} (hg : Good n σ F) (k W : Nat) : LitsAre σ F (yk k W) (ofB W (2 ^ k)) := by
  refine ⟨fun x hx => ?_, ?_⟩
  · obtain ⟨i, _, rfl⟩ := List.mem_map.1 hx
    unfold sg
    split
    · exact hg.ok1
    · exact ok_neg hg.ok1
  · refine List.ext_getElem (by rw [List.length_map, yk_len, ofB_len]) fun i h1 h2 => ?_
    have hi : i < W := by rw [ofB_len] at h2; exact h2
    rw [ofB_bit W (2 ^ k) i hi, Nat.testBit_two_pow, List.getElem_map]
    have e : (yk k W)[i]'(by rw [yk_len]; exact hi) = sg k i := by simp [yk]
    rw [e]
    by_cases h : i = k
    · subst h
      rw [sg_eq, hg.t1]; simp
    · rw [sg_ne h, litT_neg _ (by decide), hg.t1]
      simp; omega
theorem two_val (k W : Nat) (h : k < W) : valB (ofB W (2 ^ k)) = 2 ^ k := by
  rw [valB_ofB, Nat.mod_eq_of_lt (Nat.pow_lt_pow_right (by omega) h)]
theorem ofB_snoc (n v j : Nat) (h : j < n) : (ofB n v).take (j + 1) = (ofB n v).take j ++ [v.testBit j] := by
  rw [ofB_take n v j h, Nat.testBit_eq_decide_div_mod_eq]
theorem w1_lo (a : List Bool) (k W j : Nat) (h : j < W) (hk : j < k) : (ofB W (valB a * 2 ^ k)).take (j + 1) = (ofB W (valB a * 2 ^ k)).take j ++ [false] := by
  rw [ofB_snoc _ _ _ h, Nat.testBit_mul_two_pow]
  simp; omega
theorem w1_hi (a : List Bool) (k W j q : Nat) (h : j < W) (hk : k ≤ j) (hq : q = j - k) (hl : q < a.length) : (ofB W (valB a * 2 ^ k)).take (j + 1) = (ofB W (valB a * 2 ^ k)).take j ++ [a[q]] := by
  subst hq
  rw [ofB_snoc _ _ _ h, Nat.testBit_mul_two_pow, valB_bit a _ hl]
  simp [hk]
theorem w2_hi (a : List Bool) (k W j : Nat) (h : j < W) (hk : a.length ≤ j + k) : (ofB W (valB a / 2 ^ k)).take (j + 1) = (ofB W (valB a / 2 ^ k)).take j ++ [false] := by
  rw [ofB_snoc _ _ _ h, Nat.testBit_div_two_pow, valB_hi a _ (by omega)]
theorem w2_lo (a : List Bool) (k W j q : Nat) (h : j < W) (hq : q = j + k) (hl : q < a.length) : (ofB W (valB a / 2 ^ k)).take (j + 1) = (ofB W (valB a / 2 ^ k)).take j ++ [a[q]] := by
  subst hq
  have e : (valB a).testBit (j + k) = a[j + k] := valB_bit a _ hl
  rw [ofB_snoc _ _ _ h, Nat.testBit_div_two_pow]
  first | rw [e] | (rw [Nat.add_comm k j, e])
theorem w3_hi (a : List Bool) (k W j : Nat) (h : j < W) (hk : k ≤ j) : (ofB W (valB a % 2 ^ k)).take (j + 1) = (ofB W (valB a % 2 ^ k)).take j ++ [false] := by
  rw [ofB_snoc _ _ _ h, Nat.testBit_mod_two_pow]
  simp; omega
theorem w3_lo (a : List Bool) (k W j : Nat) (h : j < W) (hk : j < k) (hl : j < a.length) : (ofB W (valB a % 2 ^ k)).take (j + 1) = (ofB W (valB a % 2 ^ k)).take j ++ [a[j]] := by
  rw [ofB_snoc _ _ _ h, Nat.testBit_mod_two_pow, valB_bit a _ hl]
  simp [hk]
theorem divQ_two (W A k : Nat) : divQ W A (2 ^ k) = A / 2 ^ k := if_neg (Nat.ne_of_gt (Nat.pow_pos (by omega)))
attribute [local go_sem] Oper.semAt_some

set_option maxRecDepth 100000 in
set_option maxHeartbeats 6400000 in
theorem shift_walk (z cr : Int) (vals : List Bool) (lx ly : List Int) (vv vx vy : Value) (w : World) (hz : -9223372036854775808 ≤ z ∧ z ≤ 9223372036854775807) (hcr : -9223372036854775808 ≤ cr ∧ cr ≤ 9223372036854775807)
    (hv : Bools (· < w.heap.size) w vv vals) (hx : Ints (· < w.heap.size) w vx lx) (hy : Ints (· < w.heap.size) w vy ly)
    (hlx : ∀ x ∈ lx, -9223372036854775808 ≤ x ∧ x ≤ 9223372036854775807) (hly : ∀ x ∈ ly, -9223372036854775808 ≤ x ∧ x ≤ 9223372036854775807) :
    Calls Try.prog 14 #[.agg #[.int .i64 z, vv, vx, vy], .int .i64 cr] w fun e w' => e = .returned (.bool true) ∧ Below w.heap.size w w' := by
  have hmk := fun (wc : World) (hbc : Below w.heap.size w wc) => make_mk (z % 18) vals lx ly vv vx vy wc (by omega) (hv.keep fun k hk => ⟨Nat.lt_of_lt_of_le hk hbc.size, hbc.block k hk⟩) (hx.keep fun k hk => ⟨Nat.lt_of_lt_of_le hk hbc.size, hbc.block k hk⟩) (hy.keep fun k hk => ⟨Nat.lt_of_lt_of_le hk hbc.size, hbc.block k hk⟩) hlx hly (((z % 18) % 64).toNat + 1) rfl
  have hW1 : 1 ≤ ((z % 18) % 64).toNat + 1 := by omega
  have hW18 : ((z % 18) % 64).toNat + 1 ≤ 18 := by omega
  generalize ((z % 18) % 64).toNat + 1 = W at *
  obtain ⟨pv, cv, rfl, _, _, _, _⟩ := hv.op
  obtain ⟨px, cx, rfl, _, _, _, _⟩ := hx.op
  obtain ⟨py, cy, rfl, _, _, _, _⟩ := hy.op
  have hW64 : W ≤ 64 := by omega
  have HMK := hid hmk
  have HCUT := hid (fun w' => cut_any z pv px py vals.length cv lx.length cx ly.length cy w' hz)
  have hb0 : Below w.heap.size w (w.alloc (.cells #[.int .i64 z, .slice pv vals.length cv, .slice px lx.length cx, .slice py ly.length cy] 25)) := (Below.refl _ _).alloc (Nat.le_refl _) _
  have HB0 := hid hb0
  clear hmk hv hx hy hlx hly hb0
  go_enter Try.func14, Try.ntmps14
  go_wp2_with fail
  (with_reducible refine (HCUT.out _).mono ?_)
  rintro e wc ⟨rfl, hbc⟩
  have hbc := below_tr' HB0.out hbc (by simp)
  have HMC := hid (HMK.out wc hbc)
  have HBC := hid hbc
  clear hbc HMK HCUT HB0
  go_wp2_with fail
  (with_reducible refine HMC.out.mono ?_)
  rintro e w3 ⟨bb, σ0, vin, vval, v1, v2, va, vb, xs, ys, rfl, hC, hxl, hyl, hxo, hyo, ix, iy, ia, ib, hbe, hbb, hlo⟩
  obtain ⟨pi, ci, rfl, _, _, _⟩ := hC.inp.opn (insM_len _)
  obtain ⟨pw, cw, rfl, _, _, _⟩ := hC.val.opn (valsM_len _ _)
  obtain ⟨p1, c1, rfl, _, _, _⟩ := ix.opn hxl
  obtain ⟨p2, c2, rfl, _, _, _⟩ := iy.opn hyl
  obtain ⟨p3, c3, rfl, _, _, _⟩ := ia.opn (n := W) (by rw [List.length_map]; exact hxl)
  obtain ⟨p4, c4, rfl, _, _, _⟩ := ib.opn (n := W) (by rw [List.length_map]; exact hyl)
  have HB3 := hid (show Bas wc bb (2 * W) _ _ (2 * W + 1) 1 w3 σ0 ⟨2 * W + 1, [[1]]⟩ from ⟨St.mk hC hbe hlo, Nat.le_refl _, Nat.le_refl _⟩)
  have HAL := hid (show (xs.map (litT σ0)).length = W by rw [List.length_map, hxl])
  have HBL := hid (show (ys.map (litT σ0)).length = W by rw [List.length_map, hyl])
  have HK3 := hid (((Kit.nil (bb := bb)).word iy (show LitsAre σ0 ⟨2 * W + 1, [[1]]⟩ ys _ from ⟨hyo, rfl⟩)).word ix (show LitsAre σ0 ⟨2 * W + 1, [[1]]⟩ xs _ from ⟨hxo, rfl⟩))
  have HIA3 := hid ia
  have HIB3 := hid ib
  clear hC hbe hlo hxl hyl hxo hyo ix iy ia ib hbb
  generalize xs.map (litT σ0) = ax at *
  generalize ys.map (litT σ0) = ay at *
  go_wp2_with fail
  obtain ⟨hB4, hT4, hsz4, hf4⟩ := HB3.out.box _ rfl
  generalize hw4 : World.alloc w3 _ = w4 at *
  clear hw4
  have HB := hid hB4; have HT := hid hT4; have HK := hid (HK3.out.fr hf4); have HIA := hid (HIA3.out.fr hf4); have HIB := hid (HIB3.out.fr hf4)
  have hS4 := hT4.boxS
  have hq1 : W * W ≤ 324 := by
    have := Nat.mul_le_mul hW18 hW18
    omega
  have hq2 : 3 * W * (W - 1) ≤ 918 := by
    have := Nat.mul_le_mul (show 3 * W ≤ 54 by omega) (show W - 1 ≤ 17 by omega)
    omega
  have hq3 : 18 * W * (W - 1) ≤ 5508 := by
    have := Nat.mul_le_mul (show 18 * W ≤ 324 by omega) (show W - 1 ≤ 17 by omega)
    omega
  have hq4 : W * (6 * W + 1) ≤ 1962 := by
    have := Nat.mul_le_mul hW18 (show 6 * W + 1 ≤ 109 by omega)
    omega
  have hq5 : W * (36 * W + 6) ≤ 11772 := by
    have := Nat.mul_le_mul hW18 (show 36 * W + 6 ≤ 654 by omega)
    omega
  have HQ := hid (And.intro hq1 (And.intro hq2 (And.intro hq3 (And.intro hq4 hq5))))
  clear hB4 hT4 hsz4 hf4 HB3 HK3 HIA3 HIB3 HMC hq1 hq2 hq3 hq4 hq5
  have hS := hS4
  clear hS4
  obtain ⟨hq1, hq2, hq3, hq4, hq5⟩ := HQ.out
  have hm0 := Int.emod_nonneg cr (show (W : Int) ≠ 0 by omega)
  have hm1 := Int.emod_lt_of_pos cr (show (0 : Int) < (W : Int) by omega)
  have HMOD := hid (fun w0 => mod_any cr (W : Int) w0 hcr (by omega))
  generalize cr % (W : Int) = mo at *
  obtain ⟨k, rfl⟩ : ∃ k : Nat, mo = (k : Int) := ⟨mo.toNat, by omega⟩
  have hkW : k < W := by omega
  clear hm0 hm1
  go_wp2_with fail
  (with_reducible refine (HMOD.out _).mono ?_)
  rintro e w' ⟨rfl, rfl⟩
  clear HMOD hS
  have HKW := hid hkW
  go_wp2_with fail
  go_loopw [11, 12] (fun v i wr => ∃ (j : Nat), j ≤ W ∧ i = .int .i64 j ∧ wr.ownsRow w4.heap.size 3 1 v j (((yk k W).take j).map (Value.int .i64)) ∧ Below w4.heap.size w4 wr) (fun _ i _ => W - (intOf i).toNat)
  case atStart => exact ⟨0, Nat.zero_le _, rfl, World.ownsRow_nil _ _ _ _, Below.refl _ _⟩
  case round =>
    obtain ⟨j, hj, rfl, hown, hbel⟩ := hrel
    obtain ⟨wo, rfl⟩ : ∃ wo : World, wo = wr := ⟨_, rfl⟩
    obtain ⟨po, co, rfl⟩ := own_slice hown
    have hSo := (HT.out.fr (FrB.of_below HB.out.st.c.b hbel)).boxS
    by_cases hlt : j < W
    · have hsn := yk_at k W j hlt
      have HBE := hid hbel; have HO := hid hown
      have hws := hbel.size
      obtain ⟨b0, b1, b2⟩ := hSo
      clear hown hbel
      rcases Nat.lt_trichotomy j k with he | he | he
      · rw [sg_ne (by omega)] at hsn
        have HSN := hid hsn
        clear hsn
        have hne : ((j : Int) = (k : Int)) = False := by simp; omega
        go_wp2_with (first | (go_at_call 31; refine (true_any bb _).mono ?_; rintro e w' ⟨rfl, rfl⟩) | ((try rw [wrap_m1]); (at_builtin; refine wpList_app _ rfl (.tmp 53) (.tmp 58) 23 rfl w4.heap.size 3 (.int .i64 0) 8 Try.underlying23 info_int rfl _ j _ rfl (HO.out.alloc _) (some ⟨wo.heap.size, 0, none⟩) 1 1 [.int .i64 (-1)] rfl rfl (RowR.one _ _ _) (by simp [Value.oneCell']) (by omega) (by unfold maxLen; omega) (by rw [World.size_alloc]; omega) ?_; intro v' w6 hown4 hg4 _; have HO4 := hid hown4; have HG4 := hid hg4; clear hown4 hg4)))
        go_roundw
        case rel => exact ⟨j + 1, by omega, by go_num, by rw [HSN.out, List.map_append]; exact HO4.out, below_one HBE.out hws HG4.out (fun j hj => (HO.out.lt _ hj).1)⟩
        case measure => (simp [intOf] <;> omega)
      · subst he
        rw [sg_eq] at hsn
        have HSN := hid hsn
        clear hsn
        go_wp2_with (first | (go_at_call 31; refine (true_any bb _).mono ?_; rintro e w' ⟨rfl, rfl⟩) | ((try rw [wrap_m1]); (at_builtin; refine wpList_app _ rfl (.tmp 47) (.tmp 51) 23 rfl w4.heap.size 3 (.int .i64 0) 8 Try.underlying23 info_int rfl _ j _ rfl (HO.out.alloc _) (some ⟨wo.heap.size, 0, none⟩) 1 1 [.int .i64 1] rfl rfl (RowR.one _ _ _) (by simp [Value.oneCell']) (by omega) (by unfold maxLen; omega) (by rw [World.size_alloc]; omega) ?_; intro v' w6 hown4 hg4 _; have HO4 := hid hown4; have HG4 := hid hg4; clear hown4 hg4)))
        go_roundw
        case rel => exact ⟨j + 1, by omega, by go_num, by rw [HSN.out, List.map_append]; exact HO4.out, below_one HBE.out hws HG4.out (fun j hj => (HO.out.lt _ hj).1)⟩
        case measure => (simp [intOf] <;> omega)
      · rw [sg_ne (by omega)] at hsn
        have HSN := hid hsn
        clear hsn
        have hne : ((j : Int) = (k : Int)) = False := by simp; omega
        go_wp2_with (first | (go_at_call 31; refine (true_any bb _).mono ?_; rintro e w' ⟨rfl, rfl⟩) | ((try rw [wrap_m1]); (at_builtin; refine wpList_app _ rfl (.tmp 53) (.tmp 58) 23 rfl w4.heap.size 3 (.int .i64 0) 8 Try.underlying23 info_int rfl _ j _ rfl (HO.out.alloc _) (some ⟨wo.heap.size, 0, none⟩) 1 1 [.int .i64 (-1)] rfl rfl (RowR.one _ _ _) (by simp [Value.oneCell']) (by omega) (by unfold maxLen; omega) (by rw [World.size_alloc]; omega) ?_; intro v' w6 hown4 hg4 _; have HO4 := hid hown4; have HG4 := hid hg4; clear hown4 hg4)))
        go_roundw
        case rel => exact ⟨j + 1, by omega, by go_num, by rw [HSN.out, List.map_append]; exact HO4.out, below_one HBE.out hws HG4.out (fun j hj => (HO.out.lt _ hj).1)⟩
        case measure => (simp [intOf] <;> omega)
    · obtain rfl : W = j := by omega
      have hown0 := hown
      rw [List.take_of_length_le (by rw [yk_len]; exact Nat.le_refl _)] at hown0
      have hB := HB.out.fr hbel
      have hfd := FrB.of_below HB.out.st.c.b hbel
      have hiy : Ints (Away bb wo) wo (.slice po W co) (yk k W) := Sl.of_owns hown0 (by omega) (fun i hi => HB.out.st.c.b.away_new hbel (hown0.lt i hi).1 (hown0.lt i hi).2)
      have hT := HT.out.fr hfd; have hK := (HK.out.fr hfd).word hiy (yk_lits HB.out.st.c.good k W)
      have hIA := HIA.out.fr hfd; have hIB := HIB.out.fr hfd
      clear HB HT HK HIA HIB hbel hfd hown hown0 hiy
      have HB := hid hB; have HT := hid hT; have HK := hid hK; have HIA := hid hIA; have HIB := hid hIB
      clear hB hT hK hIA hIB
      have hS := hSo
      clear hSo
      have hby := ofB_len W (2 ^ k)
      have HBY := hid hby
      clear hby
      have HC := hid (mul_c HB.out (m := W) hW1 hW64 (HK.out.w (.slice p1 W c1, xs, ax) (by simp)).1 (HK.out.w (.slice po W co, yk k W, ofB W (2 ^ k)) (by simp)).1 (HK.out.w (.slice p1 W c1, xs, ax) (by simp)).2 (HK.out.w (.slice po W co, yk k W, ofB W (2 ^ k)) (by simp)).2 HAL.out HBY.out (by omega) (by omega))
      obtain ⟨b0, b1, b2⟩ := hS
      go_wp2_with fail
      (with_reducible refine HC.out.mono ?_)
      rintro e w5 ⟨v5, zs5, σ5, F5, rfl, hB, hi, hl, hf, hx⟩
      have hz : zs5.length = W := by rw [hl.len]; exact ofB_len _ _
      obtain ⟨p5, c5, rfl, _, _, _⟩ := hi.opn hz
      have hT := HT.out.fr hf
      have hK := (HK.out.step hf hx).word hi hl
      have hS5 := hT.boxS
      have HIA5 := hid (HIA.out.fr hf); have HIB5 := hid (HIB.out.fr hf)
      clear HB HT HK HC HIA HIB b0 b1 b2
      have HB := hid hB; have HT := hid hT; have HK := hid hK; have HIA := HIA5; have HIB := HIB5; have hS := hS5
      clear hB hT hK hi hl hf hx hz HIA5 HIB5 hS5
      have HC := hid (div_c HB.out (m := W) hW1 hW64 (HK.out.w (.slice p1 W c1, xs, ax) (by simp)).1 (HK.out.w (.slice po W co, yk k W, ofB W (2 ^ k)) (by simp)).1 (HK.out.w (.slice p1 W c1, xs, ax) (by simp)).2 (HK.out.w (.slice po W co, yk k W, ofB W (2 ^ k)) (by simp)).2 HAL.out HBY.out (by omega) (by omega))
      obtain ⟨b0, b1, b2⟩ := hS
      go_wp2_with fail
      (with_reducible refine HC.out.mono ?_)
      rintro e w6 ⟨v6, zs6, u6, us6, σ6, F6, rfl, hB, hi, hl, hi2, hl2, hf, hx⟩
      have hz : zs6.length = W := by rw [hl.len]; exact ofB_len _ _
      have hz2 : us6.length = W := by rw [hl2.len]; exact ofB_len _ _
      obtain ⟨p6, c6, rfl, _, _, _⟩ := hi.opn hz
      obtain ⟨q6, d6, rfl, _, _, _⟩ := hi2.opn hz2
      have hT := HT.out.fr hf
      have hK := ((HK.out.step hf hx).word hi hl).word hi2 hl2
      have hS6 := hT.boxS
      have HIA6 := hid (HIA.out.fr hf); have HIB6 := hid (HIB.out.fr hf)
      clear HB HT HK HC HIA HIB b0 b1 b2
      have HB := hid hB; have HT := hid hT; have HK := hid hK; have HIA := HIA6; have HIB := HIB6; have hS := hS6
      clear hB hT hK hi hl hf hx hz hi2 hl2 hz2 HIA6 HIB6 hS6
      clear hq1 hq2 hq3 hq4 hq5 HQ
      have hwp := HK.out.w (.slice p5 W c5, zs5, ofB W (valB ax * valB (ofB W (2 ^ k)))) (by simp)
      have hwq := HK.out.w (.slice p6 W c6, zs6, ofB W (divQ W (valB ax) (valB (ofB W (2 ^ k))))) (by simp)
      have hwr := HK.out.w (.slice q6 W d6, us6, ofB W (valB ax % valB (ofB W (2 ^ k)))) (by simp)
      rw [two_val k W HKW.out] at hwp hwq hwr
      rw [divQ_two] at hwq
      have hz5 : zs5.length = W := by have e3 := hwp.2.len; simp only [ofB_len] at e3; exact e3
      have hz6 : zs6.length = W := by have e3 := hwq.2.len; simp only [ofB_len] at e3; exact e3
      have hz7 : us6.length = W := by have e3 := hwr.2.len; simp only [ofB_len] at e3; exact e3
      have HZ5 := hid hz5; have HZ6 := hid hz6; have HZ7 := hid hz7
      have HWP := hid hwp; have HWQ := hid hwq; have HWR := hid hwr
      have hra := (HIA.out.opn (n := W) HAL.out)
      obtain ⟨_, _, hsl, _, _, hra⟩ := hra
      injection hsl with e1 e2 e3
      subst e1
      have HRA := hid hra
      clear hz5 hz6 hz7 hwp hwq hwr hra HIB
      obtain ⟨u1, hu1⟩ : ∃ u, (ofB W (valB ax * 2 ^ k)) = u := ⟨_, rfl⟩
      obtain ⟨u2, hu2⟩ : ∃ u, (ofB W (valB ax / 2 ^ k)) = u := ⟨_, rfl⟩
      obtain ⟨u3, hu3⟩ : ∃ u, (ofB W (valB ax % 2 ^ k)) = u := ⟨_, rfl⟩
      have hul1 : u1.length = W := by rw [← hu1, ofB_len]
      have hul2 : u2.length = W := by rw [← hu2, ofB_len]
      have hul3 : u3.length = W := by rw [← hu3, ofB_len]
      have hn1 : ∀ j, j < W → ∃ b, u1.take (j + 1) = u1.take j ++ [b] ∧ ((j < k ∧ b = false) ∨ (j = k ∧ ∃ h : 0 < ax.length, b = ax[0]) ∨ (k < j ∧ ∃ q, ∃ h : q < ax.length, (j : Int) - (k : Int) = (q : Int) ∧ b = ax[q])) := by
        intro j hj
        by_cases h : j < k
        · exact ⟨false, by rw [← hu1]; exact w1_lo ax k W j hj h, .inl ⟨h, rfl⟩⟩
        · by_cases he : j = k
          · have hq : 0 < ax.length := by rw [HAL.out]; omega
            exact ⟨ax[0], by rw [← hu1]; exact w1_hi ax k W j 0 hj (by omega) (by omega) hq, .inr (.inl ⟨he, hq, rfl⟩)⟩
          · have hq : j - k < ax.length := by rw [HAL.out]; omega
            exact ⟨ax[j - k], by rw [← hu1]; exact w1_hi ax k W j _ hj (by omega) rfl hq, .inr (.inr ⟨by omega, j - k, hq, by omega, rfl⟩)⟩
      have hn2 : ∀ j, j < W → ∃ b, u2.take (j + 1) = u2.take j ++ [b] ∧ ((W ≤ j + k ∧ b = false) ∨ (∃ q, ∃ h : q < ax.length, (j : Int) + (k : Int) = (q : Int) ∧ (W : Int) - 1 = (q : Int) ∧ b = ax[q]) ∨ (∃ q m, ∃ h : q < ax.length, (j : Int) + (k : Int) = (q : Int) ∧ (W : Int) - 1 = (m : Int) ∧ q < m ∧ b = ax[q])) := by
        intro j hj
        by_cases h : W ≤ j + k
        · exact ⟨false, by rw [← hu2]; exact w2_hi ax k W j hj (by rw [HAL.out]; exact h), .inl ⟨h, rfl⟩⟩
        · have hq : j + k < ax.length := by rw [HAL.out]; omega
          by_cases he : j + k = W - 1
          · exact ⟨ax[j + k], by rw [← hu2]; exact w2_lo ax k W j _ hj rfl hq, .inr (.inl ⟨j + k, hq, by omega, by omega, rfl⟩)⟩
          · exact ⟨ax[j + k], by rw [← hu2]; exact w2_lo ax k W j _ hj rfl hq, .inr (.inr ⟨j + k, W - 1, hq, by omega, by omega, by omega, rfl⟩)⟩
      have hn3 : ∀ j, j < W → ∃ b, u3.take (j + 1) = u3.take j ++ [b] ∧ ((k ≤ j ∧ b = false) ∨ (j < k ∧ ∃ h : j < ax.length, b = ax[j])) := by
        intro j hj
        by_cases h : k ≤ j
        · exact ⟨false, by rw [← hu3]; exact w3_hi ax k W j hj h, .inl ⟨h, rfl⟩⟩
        · have hq : j < ax.length := by rw [HAL.out]; omega
          exact ⟨ax[j], by rw [← hu3]; exact w3_lo ax k W j hj (by omega) hq, .inr ⟨by omega, hq, rfl⟩⟩
      have HN1 := hid hn1; have HN2 := hid hn2; have HN3 := hid hn3
      have HU := hid (And.intro hu1 (And.intro hu2 hu3))
      have HUL := hid (And.intro hul1 (And.intro hul2 hul3))
      clear hn1 hn2 hn3 hu1 hu2 hu3 hul1 hul2 hul3 hS
      go_wp2_with fail
      go_loopw [18, 19] (fun v i wr => ∃ (j : Nat), j ≤ W ∧ i = .int .i64 j ∧ wr.ownsRow w6.heap.size 4 1 v j ((u1.take j).map Value.bool) ∧ Below w6.heap.size w6 wr) (fun _ i _ => W - (intOf i).toNat)
      case atStart => exact ⟨0, Nat.zero_le _, rfl, World.ownsRow_nil _ _ _ _, Below.refl _ _⟩
      case round =>
        obtain ⟨j, hj, rfl, hown, hbel⟩ := hrel
        obtain ⟨wo, rfl⟩ : ∃ wo : World, wo = wr := ⟨_, rfl⟩
        obtain ⟨po1, co1, rfl⟩ := own_slice hown
        by_cases hlt : j < W
        · obtain ⟨bt, hsn, hc⟩ := HN1.out j hlt
          have HSN := hid hsn; have HBE := hid hbel; have HO := hid hown
          have hws := hbel.size
          clear hown hbel hsn
          rcases hc with ⟨hc, rfl⟩ | ⟨rfl, hq, rfl⟩ | ⟨hc, q, hq, hqe, rfl⟩
          · have hge : decide ((k : Int) ≤ (j : Int)) = false := by simp; omega
            go_wp2_with (at_builtin; refine wpList_app _ rfl (.tmp 110) (.tmp 124) 22 rfl w6.heap.size 4 (.bool false) 1 Try.underlying22 info_bool rfl _ j _ rfl (HO.out.alloc _) (some ⟨wo.heap.size, 0, none⟩) 1 1 [.bool false] rfl rfl (RowR.one _ _ _) (by simp [Value.oneCell']) (by omega) (by unfold maxLen; omega) (by rw [World.size_alloc]; omega) ?_; intro v' w7 hown4 hg4 _; have HO4 := hid hown4; have HG4 := hid hg4; clear hown4 hg4)
            go_roundw
            case rel => exact ⟨j + 1, by omega, by go_num, by rw [HSN.out, List.map_append]; exact HO4.out, below_one HBE.out hws HG4.out (fun j hj => (HO.out.lt _ hj).1)⟩
            case measure => (simp [intOf] <;> omega)
          · have hge : decide ((j : Int) ≤ (j : Int)) = true := by simp
            obtain ⟨b1, o1, rfl, hR1, hcc1⟩ := HRA.out.atB 0 hq
            have d1 : wo.cell? ⟨b1, o1, none⟩ = some (.bool ax[0]) := (HBE.out.cell (p := ⟨b1, o1 + 0, none⟩) hR1.size).trans (hcc1 0 hq)
            generalize ax[0] = x at *
            clear hcc1 hR1
            go_wp2_with (at_builtin; refine wpList_app _ rfl (.tmp 110) (.tmp 124) 22 rfl w6.heap.size 4 (.bool false) 1 Try.underlying22 info_bool rfl _ j _ rfl (HO.out.alloc _) (some ⟨wo.heap.size, 0, none⟩) 1 1 [.bool x] rfl rfl (RowR.one _ _ _) (by simp [Value.oneCell']) (by omega) (by unfold maxLen; omega) (by rw [World.size_alloc]; omega) ?_; intro v' w7 hown4 hg4 _; have HO4 := hid hown4; have HG4 := hid hg4; clear hown4 hg4)
            go_roundw
            case rel => exact ⟨j + 1, by omega, by go_num, by rw [HSN.out, List.map_append]; exact HO4.out, below_one HBE.out hws HG4.out (fun j hj => (HO.out.lt _ hj).1)⟩
            case measure => (simp [intOf] <;> omega)
          · have hge : decide ((k : Int) ≤ (j : Int)) = true := by simp; omega
            have hqW : q < W := by rw [← HAL.out]; exact hq
            obtain ⟨b1, o1, rfl, hR1, hcc1⟩ := HRA.out.atB q hq
            have d1 := (HBE.out.cell (p := ⟨b1, o1 + q, none⟩) hR1.size).trans (hcc1 q hq)
            generalize ax[q] = x at *
            clear hcc1 hR1
            go_wp2_with (at_builtin; refine wpList_app _ rfl (.tmp 110) (.tmp 124) 22 rfl w6.heap.size 4 (.bool false) 1 Try.underlying22 info_bool rfl _ j _ rfl (HO.out.alloc _) (some ⟨wo.heap.size, 0, none⟩) 1 1 [.bool x] rfl rfl (RowR.one _ _ _) (by simp [Value.oneCell']) (by omega) (by unfold maxLen; omega) (by rw [World.size_alloc]; omega) ?_; intro v' w7 hown4 hg4 _; have HO4 := hid hown4; have HG4 := hid hg4; clear hown4 hg4)
            go_roundw
            case rel => exact ⟨j + 1, by omega, by go_num, by rw [HSN.out, List.map_append]; exact HO4.out, below_one HBE.out hws HG4.out (fun j hj => (HO.out.lt _ hj).1)⟩
            case measure => (simp [intOf] <;> omega)
        · obtain rfl : W = j := by omega
          have hown1 := hown
          rw [List.take_of_length_le (by rw [HUL.out.1]; exact Nat.le_refl _)] at hown1
          have HOW1 := hid hown1; have HBW1 := hid hbel
          clear hown hbel hown1 
          go_wp2_with fail
          go_loopw [18, 20] (fun v i wr => ∃ (j : Nat), j ≤ W ∧ i = .int .i64 j ∧ wr.ownsRow w6.heap.size 4 1 v (W + j) ((u1 ++ u2.take j).map Value.bool) ∧ Below w6.heap.size w6 wr) (fun _ i _ => W - (intOf i).toNat)
          case atStart => exact ⟨0, Nat.zero_le _, rfl, by simpa using HOW1.out, HBW1.out⟩
          case round =>
            obtain ⟨j, hj, rfl, hown, hbel⟩ := hrel
            obtain ⟨wo, rfl⟩ : ∃ wo : World, wo = wr := ⟨_, rfl⟩
            obtain ⟨po2, co2, rfl⟩ := own_slice hown
            by_cases hlt : j < W
            · obtain ⟨bt, hsn, hc⟩ := HN2.out j hlt
              have HSN := hid hsn; have HBE := hid hbel; have HO := hid hown
              have hws := hbel.size
              clear hown hbel hsn
              rcases hc with ⟨hc, rfl⟩ | ⟨q, hq, hqe, hwe, rfl⟩ | ⟨q, m, hq, hqe, hwe, hc, rfl⟩
              · have hge : decide ((j : Int) + (k : Int) < (W : Int)) = false := by simp; omega
                go_wp2_with (at_builtin; refine wpList_app _ rfl (.tmp 132) (.tmp 151) 22 rfl w6.heap.size 4 (.bool false) 1 Try.underlying22 info_bool rfl _ (W + j) _ rfl (HO.out.alloc _) (some ⟨wo.heap.size, 0, none⟩) 1 1 [.bool false] rfl rfl (RowR.one _ _ _) (by simp [Value.oneCell']) (by omega) (by unfold maxLen; omega) (by rw [World.size_alloc]; omega) ?_; intro v' w7 hown4 hg4 _; have HO4 := hid hown4; have HG4 := hid hg4; clear hown4 hg4)
                go_roundw
                case rel => exact ⟨j + 1, by omega, by go_num, by rw [HSN.out, ← List.append_assoc, List.map_append]; exact HO4.out, below_one HBE.out hws HG4.out (fun j hj => (HO.out.lt _ hj).1)⟩
                case measure => (simp [intOf] <;> omega)
              · have hqW : q < W := by rw [← HAL.out]; exact hq
                have hge : decide ((q : Int) < (W : Int)) = true := by simp; omega
                obtain ⟨b1, o1, rfl, hR1, hcc1⟩ := HRA.out.atB q hq
                have d1 := (HBE.out.cell (p := ⟨b1, o1 + q, none⟩) hR1.size).trans (hcc1 q hq)
                generalize ax[q] = x at *
                clear hcc1 hR1
                go_wp2_with (at_builtin; refine wpList_app _ rfl (.tmp 132) (.tmp 151) 22 rfl w6.heap.size 4 (.bool false) 1 Try.underlying22 info_bool rfl _ (W + j) _ rfl (HO.out.alloc _) (some ⟨wo.heap.size, 0, none⟩) 1 1 [.bool x] rfl rfl (RowR.one _ _ _) (by simp [Value.oneCell']) (by omega) (by unfold maxLen; omega) (by rw [World.size_alloc]; omega) ?_; intro v' w7 hown4 hg4 _; have HO4 := hid hown4; have HG4 := hid hg4; clear hown4 hg4)
                go_roundw
                case rel => exact ⟨j + 1, by omega, by go_num, by rw [HSN.out, ← List.append_assoc, List.map_append]; exact HO4.out, below_one HBE.out hws HG4.out (fun j hj => (HO.out.lt _ hj).1)⟩
                case measure => (simp [intOf] <;> omega)
              · have hqW : q < W := by rw [← HAL.out]; exact hq
                have hge : decide ((q : Int) < (W : Int)) = true := by simp; omega
                obtain ⟨b1, o1, rfl, hR1, hcc1⟩ := HRA.out.atB q hq
                have d1 := (HBE.out.cell (p := ⟨b1, o1 + q, none⟩) hR1.size).trans (hcc1 q hq)
                generalize ax[q] = x at *
                clear hcc1 hR1
                go_wp2_with (at_builtin; refine wpList_app _ rfl (.tmp 132) (.tmp 151) 22 rfl w6.heap.size 4 (.bool false) 1 Try.underlying22 info_bool rfl _ (W + j) _ rfl (HO.out.alloc _) (some ⟨wo.heap.size, 0, none⟩) 1 1 [.bool x] rfl rfl (RowR.one _ _ _) (by simp [Value.oneCell']) (by omega) (by unfold maxLen; omega) (by rw [World.size_alloc]; omega) ?_; intro v' w7 hown4 hg4 _; have HO4 := hid hown4; have HG4 := hid hg4; clear hown4 hg4)
                go_roundw
                case rel => exact ⟨j + 1, by omega, by go_num, by rw [HSN.out, ← List.append_assoc, List.map_append]; exact HO4.out, below_one HBE.out hws HG4.out (fun j hj => (HO.out.lt _ hj).1)⟩
                case measure => (simp [intOf] <;> omega)
            · obtain rfl : W = j := by omega
              have hown2 := hown
              rw [List.take_of_length_le (by rw [HUL.out.2.1]; exact Nat.le_refl _)] at hown2
              have HOW2 := hid hown2; have HBW2 := hid hbel
              clear hown hbel hown2 HOW1 HBW1
              go_wp2_with fail
              go_loopw [18, 21] (fun v i wr => ∃ (j : Nat), j ≤ W ∧ i = .int .i64 j ∧ wr.ownsRow w6.heap.size 4 1 v (W + W + j) (((u1 ++ u2) ++ u3.take j).map Value.bool) ∧ Below w6.heap.size w6 wr) (fun _ i _ => W - (intOf i).toNat)
              case atStart => exact ⟨0, Nat.zero_le _, rfl, by simpa using HOW2.out, HBW2.out⟩
              case round =>
                obtain ⟨j, hj, rfl, hown, hbel⟩ := hrel
                obtain ⟨wo, rfl⟩ : ∃ wo : World, wo = wr := ⟨_, rfl⟩
                obtain ⟨po3, co3, rfl⟩ := own_slice hown
                by_cases hlt : j < W
                · obtain ⟨bt, hsn, hc⟩ := HN3.out j hlt
                  have HSN := hid hsn; have HBE := hid hbel; have HO := hid hown
                  have hws := hbel.size
                  clear hown hbel hsn
                  rcases hc with ⟨hc, rfl⟩ | ⟨hc, hq, rfl⟩
                  · have hge : decide ((j : Int) < (k : Int)) = false := by simp; omega
                    go_wp2_with (at_builtin; refine wpList_app _ rfl (.tmp 159) (.tmp 169) 22 rfl w6.heap.size 4 (.bool false) 1 Try.underlying22 info_bool rfl _ (W + W + j) _ rfl (HO.out.alloc _) (some ⟨wo.heap.size, 0, none⟩) 1 1 [.bool false] rfl rfl (RowR.one _ _ _) (by simp [Value.oneCell']) (by omega) (by unfold maxLen; omega) (by rw [World.size_alloc]; omega) ?_; intro v' w7 hown4 hg4 _; have HO4 := hid hown4; have HG4 := hid hg4; clear hown4 hg4)
                    go_roundw
                    case rel => exact ⟨j + 1, by omega, by go_num, by rw [HSN.out, ← List.append_assoc, List.map_append]; exact HO4.out, below_one HBE.out hws HG4.out (fun j hj => (HO.out.lt _ hj).1)⟩
                    case measure => (simp [intOf] <;> omega)
                  · have hge : decide ((j : Int) < (k : Int)) = true := by simp; omega
                    obtain ⟨b1, o1, rfl, hR1, hcc1⟩ := HRA.out.atB j hq
                    have d1 := (HBE.out.cell (p := ⟨b1, o1 + j, none⟩) hR1.size).trans (hcc1 j hq)
                    generalize ax[j] = x at *
                    clear hcc1 hR1
                    go_wp2_with (at_builtin; refine wpList_app _ rfl (.tmp 159) (.tmp 169) 22 rfl w6.heap.size 4 (.bool false) 1 Try.underlying22 info_bool rfl _ (W + W + j) _ rfl (HO.out.alloc _) (some ⟨wo.heap.size, 0, none⟩) 1 1 [.bool x] rfl rfl (RowR.one _ _ _) (by simp [Value.oneCell']) (by omega) (by unfold maxLen; omega) (by rw [World.size_alloc]; omega) ?_; intro v' w7 hown4 hg4 _; have HO4 := hid hown4; have HG4 := hid hg4; clear hown4 hg4)
                    go_roundw
                    case rel => exact ⟨j + 1, by omega, by go_num, by rw [HSN.out, ← List.append_assoc, List.map_append]; exact HO4.out, below_one HBE.out hws HG4.out (fun j hj => (HO.out.lt _ hj).1)⟩
                    case measure => (simp [intOf] <;> omega)
                · obtain rfl : W = j := by omega
                  have hown3 := hown
                  rw [List.take_of_length_le (by rw [HUL.out.2.2]; exact Nat.le_refl _)] at hown3
                  have HOW3 := hid hown3; have HBW3 := hid hbel
                  clear hown hbel hown3 HOW2 HBW2
                  have hlt6 := HT.out.lt
                  have hfw := FrB.of_below HB.out.st.c.b HBW3.out
                  have hSw := (HT.out.fr hfw).boxS
                  have hSd : (BoxS w3.heap.size (.pointer (some ⟨bb, 0, none⟩)) (.slice pi (2 * W) ci) (.slice pw (2 * W) cw)) wo.drew := hSw.drew
                  have hws := HBW3.out.size
                  clear hSw hfw
                  go_wp2_with fail
                  have hFa : ∀ f, Fence.wide.fn f := fun _ => trivial
                  refine (wpIn_wide (n := 9)).1 ?_
                  refine wpIn_onlyN ?_
                  refine wpIn_region_HJ (BoxS w3.heap.size (.pointer (some ⟨bb, 0, none⟩)) (.slice pi (2 * W) ci) (.slice pw (2 * W) cw)) 12 (by kernel_rfl) ?_
                  simp only [List.size_toArray, List.length_cons, List.length_nil, Nat.reduceAdd]
                  refine wpHJ_take (v := ?vz0) 0 hFa rfl (by kernel_rfl) (fun _ _ _ h => h.elim) (Or.inl ⟨by rfl, ?yz0⟩) hSd ?rz0
                  case yz0 => (intro w' hS'; obtain ⟨s1, s2, s3⟩ := hS'; go_simp; try rfl)
                  simp only [Act.put, List.getElem_toArray, List.getElem_cons_succ, List.getElem_cons_zero, List.setIfInBounds_toArray, List.set_cons_zero, List.set_cons_succ]
                  refine wpHJ_pure (v := ?vz1) 1 hFa rfl (by kernel_rfl) (fun _ _ _ h => h.elim) (Or.inl ⟨by rfl, ?yz1⟩) (.inr hSd) ?rz1
                  case yz1 => (intro w' _; go_simp; try rfl)
                  simp only [Act.put, List.getElem_toArray, List.getElem_cons_succ, List.getElem_cons_zero, List.setIfInBounds_toArray, List.set_cons_zero, List.set_cons_succ]
                  refine wpHJ_pure (v := ?vz3) 3 hFa rfl (by kernel_rfl) (fun _ _ _ h => h.elim) (Or.inl ⟨by rfl, ?yz3⟩) (.inr hSd) ?rz3
                  case yz3 => (intro w' _; go_simp; try rfl)
                  simp only [Act.put, List.getElem_toArray, List.getElem_cons_succ, List.getElem_cons_zero, List.setIfInBounds_toArray, List.set_cons_zero, List.set_cons_succ]
                  refine wpHJ_pure (v := ?vz5) 5 hFa rfl (by kernel_rfl) (fun _ _ _ h => h.elim) (Or.inl ⟨by rfl, ?yz5⟩) (.inr hSd) ?rz5
                  case yz5 => (intro w' _; go_simp; try rfl)
                  simp only [Act.put, List.getElem_toArray, List.getElem_cons_succ, List.getElem_cons_zero, List.setIfInBounds_toArray, List.set_cons_zero, List.set_cons_succ]
                  refine wpHJ_pure (v := ?vz7) 7 hFa rfl (by kernel_rfl) (fun _ _ _ h => h.elim) (Or.inl ⟨by rfl, ?yz7⟩) (.inr hSd) ?rz7
                  case yz7 => (intro w' _; go_simp; try rfl)
                  simp only [Act.put, List.getElem_toArray, List.getElem_cons_succ, List.getElem_cons_zero, List.setIfInBounds_toArray, List.set_cons_zero, List.set_cons_succ]
                  refine wpHJ_only 2 (by kernel_rfl) rfl ?_
                  intro K hK
                  refine wpIn_app hFa (.const (.slice none 0 0)) (.tmp 172) 23 rfl wo.heap.size 3 (.int .i64 0) 8 Try.underlying23 info_int rfl _ 0 _ rfl (World.ownsRow_nil _ _ _ _) p5 W c5 (zs5.map (Value.int .i64)) rfl (by rw [List.length_map, HZ5.out]) (HWP.out.1.row.keep (R' := fun _ => True) (w' := wo.drew) fun k hk => ⟨trivial, HBW3.out.block k hk.size⟩) (ints_one _) (by omega) (by unfold maxLen; omega) (Nat.le_refl _) ?_
                  intro v7 w7 ho7 hg7 _
                  simp only [Nat.zero_add, List.nil_append] at ho7
                  simp only [Act.put, List.getElem_toArray, List.getElem_cons_succ, List.getElem_cons_zero, List.setIfInBounds_toArray, List.set_cons_zero, List.set_cons_succ]
                  obtain ⟨p7, c7, rfl⟩ := own_slice ho7
                  have hb7 : Below wo.heap.size wo w7 := (Below.refl _ _).drew.grown hg7 (Nat.le_refl _) (fun k hk => by cases hk)
                  have hb67 := below_tr' HBW3.out hb7 (Nat.le_refl _)
                  have hS7 : (BoxS w3.heap.size (.pointer (some ⟨bb, 0, none⟩)) (.slice pi (2 * W) ci) (.slice pw (2 * W) cw)) w7 := (HT.out.fr (FrB.of_below HB.out.st.c.b hb67)).boxS
                  have HO7 := hid ho7; have HB7 := hid hb7; have HB67 := hid hb67
                  clear ho7 hg7 hb7 hb67 hSd
                  refine hK _ _ (.inr (.inr hS7)) ?_
                  clear hK K
                  refine wpHJ_only 4 (by kernel_rfl) rfl ?_
                  intro K hK
                  refine wpIn_app hFa (.tmp 173) (.tmp 174) 23 rfl wo.heap.size 3 (.int .i64 0) 8 Try.underlying23 info_int rfl _ W _ rfl HO7.out p6 W c6 (zs6.map (Value.int .i64)) rfl (by rw [List.length_map, HZ6.out]) (HWQ.out.1.row.keep (R' := fun _ => True) (w' := w7) fun k hk => ⟨trivial, HB67.out.block k hk.size⟩) (ints_one _) (by omega) (by unfold maxLen; omega) HB7.out.size ?_
                  intro v8 w8 ho8 hg8 _
                  simp only [Act.put, List.getElem_toArray, List.getElem_cons_succ, List.getElem_cons_zero, List.setIfInBounds_toArray, List.set_cons_zero, List.set_cons_succ]
                  obtain ⟨p8, c8, rfl⟩ := own_slice ho8
                  have hb8 : Below wo.heap.size wo w8 := HB7.out.grown hg8 HB7.out.size (fun k hk => (HO7.out.lt k hk).1)
                  have hb68 := below_tr' HBW3.out hb8 (Nat.le_refl _)
                  have hS8 : (BoxS w3.heap.size (.pointer (some ⟨bb, 0, none⟩)) (.slice pi (2 * W) ci) (.slice pw (2 * W) cw)) w8 := (HT.out.fr (FrB.of_below HB.out.st.c.b hb68)).boxS
                  have HO8 := hid ho8; have HB8 := hid hb8; have HB68 := hid hb68
                  clear ho8 hg8 hb8 hb68 hS7 HO7 HB7 HB67
                  refine hK _ _ (.inr (.inr hS8)) ?_
                  clear hK K
                  refine wpHJ_only 6 (by kernel_rfl) rfl ?_
                  intro K hK
                  refine wpIn_app hFa (.tmp 175) (.tmp 176) 23 rfl wo.heap.size 3 (.int .i64 0) 8 Try.underlying23 info_int rfl _ (W + W) _ rfl HO8.out q6 W d6 (us6.map (Value.int .i64)) rfl (by rw [List.length_map, HZ7.out]) (HWR.out.1.row.keep (R' := fun _ => True) (w' := w8) fun k hk => ⟨trivial, HB68.out.block k hk.size⟩) (ints_one _) (by omega) (by unfold maxLen; omega) HB8.out.size ?_
                  intro v9 w9 ho9 hg9 _
                  simp only [Act.put, List.getElem_toArray, List.getElem_cons_succ, List.getElem_cons_zero, List.setIfInBounds_toArray, List.set_cons_zero, List.set_cons_succ]
                  obtain ⟨p9, c9, rfl⟩ := own_slice ho9
                  have hb9 : Below wo.heap.size wo w9 := HB8.out.grown hg9 HB8.out.size (fun k hk => (HO8.out.lt k hk).1)
                  have hb69 := below_tr' HBW3.out hb9 (Nat.le_refl _)
                  have hS9 : (BoxS w3.heap.size (.pointer (some ⟨bb, 0, none⟩)) (.slice pi (2 * W) ci) (.slice pw (2 * W) cw)) w9 := (HT.out.fr (FrB.of_below HB.out.st.c.b hb69)).boxS
                  have hi9 : Ints (New w6 w9) w9 (.slice p9 (W + W + W) c9) (zs5 ++ zs6 ++ us6) := by
                    have h1 := ho9
                    rw [← List.map_append, ← List.map_append] at h1
                    exact Sl.of_owns h1 (by omega) (fun k hk => ⟨by have := (h1.lt k hk).1; omega, (h1.lt k hk).2⟩)
                  have hiw : Bools (New w6 w9) w9 (.slice po3 (W + W + W) co3) (u1 ++ u2 ++ u3) := by
                    have h1 := owns_keep HOW3.out fun j hj => hb9.block j (HOW3.out.lt j hj).2
                    exact bnew h1 (by omega) (Nat.le_refl _)
                  have hC9 := HB.out.st.c.below hb69
                  have hmap : (zs5 ++ zs6 ++ us6).map (litT σ6) = u1 ++ u2 ++ u3 := by
                    have e1 : zs5.map (litT σ6) = u1 := HWP.out.2.2.trans HU.out.1
                    have e2 : zs6.map (litT σ6) = u2 := HWQ.out.2.2.trans HU.out.2.1
                    have e3 : us6.map (litT σ6) = u3 := HWR.out.2.2.trans HU.out.2.2
                    rw [List.map_append, List.map_append, e1, e2, e3]
                  have HDE := hid (decided_any bb (2 * W) σ6 F6 _ _ (.slice p9 (W + W + W) c9) (.slice po3 (W + W + W) co3) (zs5 ++ zs6 ++ us6) (New w6 w9) (New w6 w9) w9 hC9 hi9 (by rw [hmap]; exact hiw) (fun x hx => (List.mem_append.1 hx).elim (fun hx => (List.mem_append.1 hx).elim (HWP.out.2.1 x) (HWQ.out.2.1 x)) (HWR.out.2.1 x)) (fun q hq => hq.2) (fun q hq => hq.2) (by rw [List.length_append, List.length_append, HZ5.out, HZ6.out, HZ7.out]; omega))
                  have HB9 := hid hb69
                  clear ho9 hg9 hb9 hb69 hi9 hiw hC9 hmap hS8 HO8 HB8 HB68
                  refine hK _ _ (.inr (.inr hS9)) ?_
                  clear hK K
                  refine wpHJ_only 8 (by kernel_rfl) rfl ?_
                  intro K hK
                  go_simp
                  (with_reducible refine (callsIn_wide.2 HDE.out).mono ?_)
                  rintro e wa ⟨rfl, hba⟩
                  have hb6a := below_tr' HB9.out hba (Nat.le_refl _)
                  have hSa := hS9.below hba (Nat.lt_of_lt_of_le hlt6 HB9.out.size)
                  have HBA := hid hb6a
                  clear hba hb6a HDE HB9 hS9
                  refine hK _ _ (.inr (.inr hSa)) ?_
                  clear hK K
                  refine wpHJ_pure (v := ?vz9) 9 hFa rfl (by kernel_rfl) (fun _ _ _ h => h.elim) (Or.inl ⟨by rfl, ?yz9⟩) (.inr hSa) ?rz9
                  case yz9 => (intro w' _; go_simp; try rfl)
                  simp only [Act.put, List.getElem_toArray, List.getElem_cons_succ, List.getElem_cons_zero, List.setIfInBounds_toArray, List.set_cons_zero, List.set_cons_succ]
                  refine wpHJ_only 10 (by kernel_rfl) rfl ?_
                  intro K hK
                  rw [if_pos (by simp [Region.wanted, yielded])]
                  go_simp
                  (with_reducible refine (callsIn_wide.2 (awake17_any _)).mono ?_)
                  rintro e wb ⟨rfl, hbb⟩
                  have hSb := hSa.below hbb (Nat.lt_of_lt_of_le hlt6 HBA.out.size)
                  have HBB := hid (below_tr' HBA.out hbb (Nat.le_refl _))
                  clear hbb HBA hSa
                  refine hK _ _ (.inr (.inr hSb)) ?_
                  clear hK K
                  refine wpHJ_pure (v := ?vz11) 11 hFa rfl (by kernel_rfl) (fun _ _ _ h => h.elim) (Or.inl ⟨by rfl, ?yz11⟩) (.inr hSb) ?rz11
                  case yz11 => (intro w' _; go_simp; try rfl)
                  simp only [Act.put, List.getElem_toArray, List.getElem_cons_succ, List.getElem_cons_zero, List.setIfInBounds_toArray, List.set_cons_zero, List.set_cons_succ]
                  refine wpHJ_only 12 (by kernel_rfl) rfl ?_
                  intro K hK
                  go_simp
                  refine hK _ _ (.inl rfl) ?_
                  clear hK K
                  refine wpHJ_done (by kernel_rfl) ?_ _
                  simp only [onlyN, Exit.then]
                  clear hFa
                  have HFR := hid (below_tr' (below_tr' HBC.out HB.out.st.fr (Nat.le_refl _)) HBB.out (Nat.le_refl _))
                  clear HB HBB hSb HT HK
                  go_wp2
                  go_ret
                  exact ⟨rfl, HFR.out⟩
end Go.Proofs.Ytngimdbjcelkeaa
