/-
  The walk of ShiftSigned.
-/
import Derived.Test.YtjcnhnifageikaaDoorShL2
namespace Go.Proofs.YtjcnhnifageikaaDoor
set_option linter.unusedSimpArgs false
set_option linter.unusedVariables false
open Go.RowKit Go.Shelf

theorem shB_signed (a b : List Bool) (h : 1 ≤ a.length) : shB 14 a b = chooseB (a.getD (a.length - 1) false) ((shB 13 (a.map (!·)) b).map (!·)) (shB 13 a b) := by
  have e13 : ∀ c : List Bool, shB 13 c b = shL false (valB b) false c := fun c => rfl
  have e14 : shB 14 a b = shL false (valB b) (a.getD (a.length - 1) false) a := by
    unfold shB fillB; simp
  rw [e13, e13, e14]
  cases a.getD (a.length - 1) false
  · rfl
  · have e : (shL false (valB b) false (a.map (!·))).map (!·) = shL false (valB b) true a := by
      rw [shL_map, List.map_map]
      congr 1
      rw [show ((fun x : Bool => !x) ∘ fun x => !x) = id from funext fun x => Bool.not_not x, List.map_id]
    show _ = (shL false (valB b) false (a.map (!·))).map (!·)
    rw [e]

theorem lits_neg {σ : Nat → Bool} {F : Form} {zs : List Int} {bs : List Bool} (h : LitsAre σ F zs bs) : LitsAre σ F (zs.map (-·)) (bs.map (!·)) := by
  refine ⟨fun x hx => ?_, ?_⟩
  · obtain ⟨y, hy, rfl⟩ := List.mem_map.1 hx
    exact ok_neg (h.1 y hy)
  · rw [← h.2, List.map_map, List.map_map]
    refine List.map_congr_left fun y hy => ?_
    exact litT_neg _ (okLit_spec.1 (h.1 y hy)).1
attribute [local go_sem] Oper.semAt_some

set_option maxRecDepth 100000 in
set_option maxHeartbeats 6400000 in
theorem shsigned_walk (z : Int) (vals : List Bool) (lx ly : List Int) (vv vx vy : Value) (w : World) (hO : Ops w) (hz : -9223372036854775808 ≤ z ∧ z ≤ 9223372036854775807)
    (hv : Bools (· < w.heap.size) w vv vals) (hx : Ints (· < w.heap.size) w vx lx) (hy : Ints (· < w.heap.size) w vy ly)
    (hlx : ∀ x ∈ lx, -9223372036854775808 ≤ x ∧ x ≤ 9223372036854775807) (hly : ∀ x ∈ ly, -9223372036854775808 ≤ x ∧ x ≤ 9223372036854775807) :
    Calls Tryd.prog 7 #[.agg #[.int .i64 z, vv, vx, vy]] w fun e w' => e = .returned (.bool true) ∧ Below w.heap.size w w' := by
  have hb0 : Below w.heap.size w (w.alloc (.cells #[.int .i64 z, vv, vx, vy] 25)) := (Below.refl _ _).alloc (Nat.le_refl _) _
  have hk0 : ∀ k, k < w.heap.size → k < (w.alloc (.cells #[.int .i64 z, vv, vx, vy] 25)).heap.size ∧ (w.alloc (.cells #[.int .i64 z, vv, vx, vy] 25)).heap[k]? = w.heap[k]? := fun k hk => ⟨by simp only [World.size_alloc]; omega, hb0.block k hk⟩
  have hmk := make_mk z vals lx ly vv vx vy (w.alloc (.cells #[.int .i64 z, vv, vx, vy] 25)) hz (hv.keep hk0) (hx.keep hk0) (hy.keep hk0) hlx hly ((z % 64).toNat + 1) rfl
  have hW1 : 1 ≤ (z % 64).toNat + 1 := by omega
  have hW64 : (z % 64).toNat + 1 ≤ 64 := by omega
  generalize (z % 64).toNat + 1 = W at *
  obtain ⟨pv, cv, rfl, _, _, _, _⟩ := hv.op
  obtain ⟨px, cx, rfl, _, _, _, _⟩ := hx.op
  obtain ⟨py, cy, rfl, _, _, _, _⟩ := hy.op
  have HMK := hid hmk; have HO := hid hO
  clear hmk hk0 hv hx hy hlx hly hO
  go_enter Tryd.func7, Tryd.ntmps7
  go_wp2_with fail
  generalize hwc : World.alloc w _ = wc at *
  clear hwc
  have HBC := hid hb0
  have HMC := hid HMK.out
  clear hb0 HMK
  (with_reducible refine HMC.out.mono ?_)
  rintro e w3 ⟨bb, σ0, vin, vval, v1, v2, va, vb, xs, ys, rfl, hC, hxl, hyl, hxo, hyo, ix, iy, ia, ib, hbe, hbb, hlo⟩
  obtain ⟨pi, ci, rfl, _, _, _⟩ := hC.inp.opn (insM_len _)
  obtain ⟨pw, cw, rfl, _, _, _⟩ := hC.val.opn (valsM_len _ _)
  obtain ⟨p1, c1, rfl, _, _, _⟩ := ix.opn hxl
  obtain ⟨p2, c2, rfl, _, _, _⟩ := iy.opn hyl
  obtain ⟨p3, c3, rfl, _, _, _⟩ := ia.opn (n := W) (by rw [List.length_map]; exact hxl)
  obtain ⟨p4, c4, rfl, _, _, _⟩ := ib.opn (n := W) (by rw [List.length_map]; exact hyl)
  have HB3 := hid (show Bas wc bb (2 * W) _ _ (2 * W + 1) 1 w3 σ0 ⟨2 * W + 1, [[1]]⟩ from ⟨St.mk hC hbe hlo, Nat.le_refl _, Nat.le_refl _⟩)
  have HAL := hid (show (xs.map (litT σ0)).length = W by rw [List.length_map, hxl])
  have HBL := hid (show (ys.map (litT σ0)).length = W by rw [List.length_map, hyl])
  have HK3 := hid (((Kit.nil (bb := bb)).word iy (show LitsAre σ0 ⟨2 * W + 1, [[1]]⟩ ys _ from ⟨hyo, rfl⟩)).word ix (show LitsAre σ0 ⟨2 * W + 1, [[1]]⟩ xs _ from ⟨hxo, rfl⟩))
  have HIA3 := hid ia
  have HIB3 := hid ib
  clear hC hbe hlo hxl hyl hxo hyo ix iy ia ib hbb
  generalize xs.map (litT σ0) = ax at *
  generalize ys.map (litT σ0) = ay at *
  go_wp2_with fail
  obtain ⟨hB4, hT4, hsz4, hf4⟩ := HB3.out.box _ rfl
  generalize hw4 : World.alloc w3 _ = w4 at *
  clear hw4
  have HB := hid hB4; have HT := hid hT4; have HK := hid (HK3.out.fr hf4); have HIA := hid (HIA3.out.fr hf4); have HIB := hid (HIB3.out.fr hf4)
  have HOC := hid (HO.out.below HBC.out HO.out.lt)
  have hq1 : W * W ≤ 4096 := by
    have := Nat.mul_le_mul hW64 hW64
    omega
  have HQ := hid hq1
  have hS := hT4.boxS
  clear hB4 hT4 hsz4 hf4 HB3 HK3 HIA3 HIB3 HMC hq1
  have hwz := (HK.out.w (.slice p1 W c1, xs, ax) (by simp))
  have hzl : xs.length = W := by rw [hwz.2.len]; exact HAL.out
  have hbd : ∀ y ∈ xs, -9223372036854775807 ≤ y ∧ y ≤ 9223372036854775807 := fun y hy => lit_i64 HB.out.st.c.b.vars (hwz.2.1 y hy)
  have HRY := hid hwz.1.row; have HYL := hid hzl; have HBD := hid hbd
  clear hwz hzl hbd
  go_wp2_with fail
  go_loopw [9, 10] (fun v i wr => ∃ (k : Nat), k ≤ W ∧ i = .int .i64 k ∧ wr.ownsRow w4.heap.size 3 1 v k (((xs.map (-·)).take k).map (Value.int .i64)) ∧ Below w4.heap.size w4 wr) (fun _ i _ => W - (intOf i).toNat)
  case atStart => exact ⟨0, Nat.zero_le _, rfl, World.ownsRow_nil _ _ _ _, Below.refl _ _⟩
  case round =>
    obtain ⟨k, hk, rfl, hown, hbel⟩ := hrel
    obtain ⟨wo1, rfl⟩ : ∃ wo : World, wo = wr := ⟨_, rfl⟩
    obtain ⟨po1, co1, rfl⟩ := own_slice hown
    by_cases hlt : k < W
    · have hky : k < xs.length := by rw [HYL.out]; exact hlt
      obtain ⟨b1, o1, rfl, hR1, hcc1⟩ := HRY.out.atI k hky
      have d1 := (hbel.cell (p := ⟨b1, o1 + k, none⟩) hR1.size).trans (hcc1 k hky)
      have hsn : (xs.map (-·)).take (k + 1) = (xs.map (-·)).take k ++ [-xs[k]] := by
        rw [List.take_succ_eq_append_getElem (by simpa using hky)]; simp
      obtain ⟨n1, n2⟩ := HBD.out _ (List.getElem_mem hky)
      have HSN := hid hsn; have HBE := hid hbel; have HO := hid hown
      have hws := hbel.size
      clear hown hbel hsn hcc1 HRY
      generalize xs[k] = y at *
      go_wp2_with (at_builtin; refine wpList_app _ rfl (.tmp 43) (.tmp 49) 23 rfl w4.heap.size 3 (.int .i64 0) 8 Tryd.underlying23 info_int rfl _ k _ rfl (HO.out.alloc _) (some ⟨wo1.heap.size, 0, none⟩) 1 1 [.int .i64 (-y)] rfl rfl (RowR.one _ _ _) (by simp [Value.oneCell']) (by omega) (by unfold maxLen; omega) (by rw [World.size_alloc]; omega) ?_; intro v' wt hownt hgt _; have HO6 := hid hownt; have HG6 := hid hgt; clear hownt hgt)
      go_roundw
      case rel => exact ⟨k + 1, by omega, by go_num, by rw [HSN.out, List.map_append]; exact HO6.out, below_one HBE.out hws HG6.out (fun j hj => (HO.out.lt _ hj).1)⟩
      case measure => simp [intOf]; omega
    · obtain rfl : W = k := by omega
      have hown0 := hown
      rw [List.take_of_length_le (by rw [List.length_map, HYL.out]; exact Nat.le_refl _)] at hown0
      have hB := HB.out.fr hbel
      have hfd := FrB.of_below HB.out.st.c.b hbel
      have hin : Ints (Away bb wo1) wo1 (.slice po1 W co1) (xs.map (-·)) := Sl.of_owns hown0 (by omega) (fun i hi => HB.out.st.c.b.away_new hbel (hown0.lt i hi).1 (hown0.lt i hi).2)
      have hK := (HK.out.fr hfd).word hin (lits_neg (HK.out.w (.slice p1 W c1, xs, ax) (by simp)).2)
      have hT := HT.out.fr hfd
      have hSn := hT.boxS
      have HIAn := hid (HIA.out.fr hfd); have HIBn := hid (HIB.out.fr hfd)
      clear HB HT HK HIA HIB hbel hfd hown hown0 hin HRY HYL HBD
      have HB := hid hB; have HT := hid hT; have HK := hid hK; have HIA := HIAn; have HIB := HIBn; have hS := hSn
      clear hB hT hK HIAn HIBn hSn
      have hq1 := HQ.out
      have HC := hid (shift14_c HB.out (m := W) hW1 hW64 (HK.out.w (.slice p1 W c1, xs, ax) (by simp)).1 (HK.out.w (.slice p2 W c2, ys, ay) (by simp)).1 (HK.out.w (.slice p1 W c1, xs, ax) (by simp)).2 (HK.out.w (.slice p2 W c2, ys, ay) (by simp)).2 HAL.out HBL.out (by omega) (by omega))
      obtain ⟨b0, b1, b2⟩ := hS
      go_wp2_with fail
      (with_reducible refine HC.out.mono ?_)
      rintro e w5 ⟨v5, zs5, σ5, F5, rfl, hB, hi, hl, hf, hx⟩
      have hz : zs5.length = W := by rw [hl.len, shB_len]; exact HAL.out
      obtain ⟨p5, c5, rfl, _, _, _⟩ := hi.opn hz
      have hT := HT.out.fr hf
      have hK := (HK.out.step hf hx).word hi hl
      have hS5 := hT.boxS
      have HIA5 := hid (HIA.out.fr hf); have HIB5 := hid (HIB.out.fr hf)
      clear HB HT HK HC HIA HIB b0 b1 b2
      have HB := hid hB; have HT := hid hT; have HK := hid hK; have HIA := HIA5; have HIB := HIB5; have hS := hS5
      clear hB hT hK hi hl hf hx hz HIA5 HIB5 hS5
      have HC := hid (shift13_c HB.out (m := W) hW1 hW64 (HK.out.w (.slice p1 W c1, xs, ax) (by simp)).1 (HK.out.w (.slice p2 W c2, ys, ay) (by simp)).1 (HK.out.w (.slice p1 W c1, xs, ax) (by simp)).2 (HK.out.w (.slice p2 W c2, ys, ay) (by simp)).2 HAL.out HBL.out (by omega) (by omega))
      obtain ⟨b0, b1, b2⟩ := hS
      go_wp2_with fail
      (with_reducible refine HC.out.mono ?_)
      rintro e w6 ⟨v6, zs6, σ6, F6, rfl, hB, hi, hl, hf, hx⟩
      have hz : zs6.length = W := by rw [hl.len, shB_len]; exact HAL.out
      obtain ⟨p6, c6, rfl, _, _, _⟩ := hi.opn hz
      have hT := HT.out.fr hf
      have hK := (HK.out.step hf hx).word hi hl
      have hS6 := hT.boxS
      have HIA6 := hid (HIA.out.fr hf); have HIB6 := hid (HIB.out.fr hf)
      clear HB HT HK HC HIA HIB b0 b1 b2
      have HB := hid hB; have HT := hid hT; have HK := hid hK; have HIA := HIA6; have HIB := HIB6; have hS := hS6
      clear hB hT hK hi hl hf hx hz HIA6 HIB6 hS6
      have HC := hid (shift13_c HB.out (m := W) hW1 hW64 (HK.out.w (.slice po1 W co1, xs.map (-·), ax.map (!·)) (by simp)).1 (HK.out.w (.slice p2 W c2, ys, ay) (by simp)).1 (HK.out.w (.slice po1 W co1, xs.map (-·), ax.map (!·)) (by simp)).2 (HK.out.w (.slice p2 W c2, ys, ay) (by simp)).2 (show (ax.map (!·)).length = W by rw [List.length_map]; exact HAL.out) HBL.out (by omega) (by omega))
      obtain ⟨b0, b1, b2⟩ := hS
      go_wp2_with fail
      (with_reducible refine HC.out.mono ?_)
      rintro e w7 ⟨v7, zs7, σ7, F7, rfl, hB, hi, hl, hf, hx⟩
      have hz : zs7.length = W := by rw [hl.len, shB_len, List.length_map]; exact HAL.out
      obtain ⟨p7, c7, rfl, _, _, _⟩ := hi.opn hz
      have hT := HT.out.fr hf
      have hK := (HK.out.step hf hx).word hi hl
      have hS7 := hT.boxS
      have HIA7 := hid (HIA.out.fr hf); have HIB7 := hid (HIB.out.fr hf)
      clear HB HT HK HC HIA HIB b0 b1 b2
      have HB := hid hB; have HT := hid hT; have HK := hid hK; have HIA := HIA7; have HIB := HIB7; have hS := hS7
      clear hB hT hK hi hl hf hx hz HIA7 HIB7 hS7
      have hwz := (HK.out.w (.slice p7 W c7, zs7, shB 13 (ax.map (!·)) ay) (by simp))
      have hzl : zs7.length = W := by rw [hwz.2.len]; exact by rw [shB_len, List.length_map]; exact HAL.out
      have hbd : ∀ y ∈ zs7, -9223372036854775807 ≤ y ∧ y ≤ 9223372036854775807 := fun y hy => lit_i64 HB.out.st.c.b.vars (hwz.2.1 y hy)
      have HRY := hid hwz.1.row; have HYL := hid hzl; have HBD := hid hbd
      clear hwz hzl hbd
      go_wp2_with fail
      go_loopw [17, 18] (fun v i wr => ∃ (k : Nat), k ≤ W ∧ i = .int .i64 k ∧ wr.ownsRow w7.heap.size 3 1 v k (((zs7.map (-·)).take k).map (Value.int .i64)) ∧ Below w7.heap.size w7 wr) (fun _ i _ => W - (intOf i).toNat)
      case atStart => exact ⟨0, Nat.zero_le _, rfl, World.ownsRow_nil _ _ _ _, Below.refl _ _⟩
      case round =>
        obtain ⟨k, hk, rfl, hown, hbel⟩ := hrel
        obtain ⟨wo2, rfl⟩ : ∃ wo : World, wo = wr := ⟨_, rfl⟩
        obtain ⟨po2, co2, rfl⟩ := own_slice hown
        by_cases hlt : k < W
        · have hky : k < zs7.length := by rw [HYL.out]; exact hlt
          obtain ⟨b1, o1, rfl, hR1, hcc1⟩ := HRY.out.atI k hky
          have d1 := (hbel.cell (p := ⟨b1, o1 + k, none⟩) hR1.size).trans (hcc1 k hky)
          have hsn : (zs7.map (-·)).take (k + 1) = (zs7.map (-·)).take k ++ [-zs7[k]] := by
            rw [List.take_succ_eq_append_getElem (by simpa using hky)]; simp
          obtain ⟨n1, n2⟩ := HBD.out _ (List.getElem_mem hky)
          have HSN := hid hsn; have HBE := hid hbel; have HO := hid hown
          have hws := hbel.size
          clear hown hbel hsn hcc1 HRY
          generalize zs7[k] = y at *
          go_wp2_with (at_builtin; refine wpList_app _ rfl (.tmp 98) (.tmp 104) 23 rfl w7.heap.size 3 (.int .i64 0) 8 Tryd.underlying23 info_int rfl _ k _ rfl (HO.out.alloc _) (some ⟨wo2.heap.size, 0, none⟩) 1 1 [.int .i64 (-y)] rfl rfl (RowR.one _ _ _) (by simp [Value.oneCell']) (by omega) (by unfold maxLen; omega) (by rw [World.size_alloc]; omega) ?_; intro v' wt hownt hgt _; have HO6 := hid hownt; have HG6 := hid hgt; clear hownt hgt)
          go_roundw
          case rel => exact ⟨k + 1, by omega, by go_num, by rw [HSN.out, List.map_append]; exact HO6.out, below_one HBE.out hws HG6.out (fun j hj => (HO.out.lt _ hj).1)⟩
          case measure => simp [intOf]; omega
        · obtain rfl : W = k := by omega
          have hown0 := hown
          rw [List.take_of_length_le (by rw [List.length_map, HYL.out]; exact Nat.le_refl _)] at hown0
          have hB := HB.out.fr hbel
          have hfd := FrB.of_below HB.out.st.c.b hbel
          have hin : Ints (Away bb wo2) wo2 (.slice po2 W co2) (zs7.map (-·)) := Sl.of_owns hown0 (by omega) (fun i hi => HB.out.st.c.b.away_new hbel (hown0.lt i hi).1 (hown0.lt i hi).2)
          have hK := (HK.out.fr hfd).word hin (lits_neg (HK.out.w (.slice p7 W c7, zs7, shB 13 (ax.map (!·)) ay) (by simp)).2)
          have hT := HT.out.fr hfd
          have hSn := hT.boxS
          have HIAn := hid (HIA.out.fr hfd); have HIBn := hid (HIB.out.fr hfd)
          clear HB HT HK HIA HIB hbel hfd hown hown0 hin HRY HYL HBD
          have HB := hid hB; have HT := hid hT; have HK := hid hK; have HIA := HIAn; have HIB := HIBn; have hS := hSn
          clear hB hT hK HIAn HIBn hSn
          have hxw := HK.out.w (.slice p1 W c1, xs, ax) (by simp)
          have hxl : xs.length = W := by rw [hxw.2.len]; exact HAL.out
          obtain ⟨t, ht1⟩ : ∃ t : Nat, W = t + 1 := ⟨W - 1, by omega⟩
          have hm1 : t < xs.length := by omega
          obtain ⟨bx, ox, hpx, hRbx, hcx⟩ := hxw.1.row.atI t hm1
          have dx := hcx t hm1
          have hfl : LitIs σ7 F7 xs[t] (ax.getD (ax.length - 1) false) := by
            refine ⟨hxw.2.1 _ (List.getElem_mem hm1), ?_⟩
            have hh := List.getElem_of_eq hxw.2.2 (i := t) (by rw [List.length_map]; exact hm1)
            rw [List.getElem_map] at hh
            rw [hh, HAL.out, show W - 1 = t by omega, List.getD_eq_getElem?_getD, List.getElem?_eq_getElem (by have := HAL.out; omega), Option.getD_some]
          have HFL := hid hfl; have HAX0 := hid hRbx; have HPX := hid hpx
          clear hxw hxl hcx hfl hRbx
          generalize xs[t] = xl at *
          have hwr : IntKind.i64.wrap ((W : Int) - 1) = (t : Int) := by rw [IntWalk.i64_in _ (by omega)]; omega
          have htW : (t : Int) < (W : Int) := by omega
          have HT1 := hid ht1
          clear ht1
          subst hpx
          have hbd2 : Below wo2.heap.size wo2 wo2.drew := ⟨rfl, rfl, rfl, Nat.le_refl _, fun _ _ => rfl⟩
          have hfd2 := FrB.of_below HB.out.st.c.b hbd2
          have HKD := hid (HK.out.fr hfd2); have HTD := hid (HT.out.fr hfd2)
          have HAX := hid (hfd2.keep _ HAX0.out).1
          have hSx : (fun W1 : World => (BoxS w3.heap.size (.pointer (some ⟨bb, 0, none⟩)) (.slice pi (2 * W) ci) (.slice pw (2 * W) cw)) W1 ∧ W1.cell? ⟨bx, ox + t, none⟩ = some (.int .i64 xl)) wo2.drew := ⟨hS.drew, dx⟩
          have HC := hid ((HB.out.fr hbd2).choose (m := W) hW1 hW64 (HKD.out.w (.slice po2 W co2, zs7.map (-·), (shB 13 (ax.map (!·)) ay).map (!·)) (by simp)).1 (HKD.out.w (.slice p6 W c6, zs6, shB 13 ax ay) (by simp)).1 (HKD.out.w (.slice po2 W co2, zs7.map (-·), (shB 13 (ax.map (!·)) ay).map (!·)) (by simp)).2 (HKD.out.w (.slice p6 W c6, zs6, shB 13 ax ay) (by simp)).2 (by rw [List.length_map, shB_len, List.length_map]; exact HAL.out) (by rw [shB_len]; exact HAL.out) HFL.out (by omega) (by omega))
          clear hbd2 hfd2 dx hS HAX0
          go_wp2_with fail
          have hFa : ∀ f, Fence.wide.fn f := fun _ => trivial
          refine (wpIn_wide (n := 9)).1 ?_
          refine wpIn_onlyN ?_
          refine wpIn_region_HJ (fun W1 : World => (BoxS w3.heap.size (.pointer (some ⟨bb, 0, none⟩)) (.slice pi (2 * W) ci) (.slice pw (2 * W) cw)) W1 ∧ W1.cell? ⟨bx, ox + t, none⟩ = some (.int .i64 xl)) 15 (by kernel_rfl) ?_
          simp only [List.size_toArray, List.length_cons, List.length_nil, Nat.reduceAdd]
          refine wpHJ_pure (v := ?vd0) 0 hFa rfl (by kernel_rfl) (fun _ _ _ h => h.elim) (Or.inl ⟨by rfl, ?yd0⟩) (.inr hSx) ?rd0
          case yd0 => (intro w' _; go_simp; try rfl)
          simp only [Act.put, List.getElem_toArray, List.getElem_cons_succ, List.getElem_cons_zero, List.setIfInBounds_toArray, List.set_cons_zero, List.set_cons_succ]
          refine wpHJ_take (v := ?vd1) 1 hFa rfl (by kernel_rfl) (fun _ _ _ h => h.elim) (Or.inl ⟨by rfl, ?yd1⟩) hSx ?rd1
          case yd1 => (intro w' hS'; obtain ⟨⟨s1, s2, s3⟩, s4⟩ := hS'; go_simp; try rfl)
          simp only [Act.put, List.getElem_toArray, List.getElem_cons_succ, List.getElem_cons_zero, List.setIfInBounds_toArray, List.set_cons_zero, List.set_cons_succ]
          refine wpHJ_pure (v := ?vd2) 2 hFa rfl (by kernel_rfl) (fun _ _ _ h => h.elim) (Or.inl ⟨by rfl, ?yd2⟩) (.inr hSx) ?rd2
          case yd2 => (intro w' _; go_simp; try rfl)
          simp only [Act.put, List.getElem_toArray, List.getElem_cons_succ, List.getElem_cons_zero, List.setIfInBounds_toArray, List.set_cons_zero, List.set_cons_succ]
          refine wpHJ_pure (v := ?vd3) 3 hFa rfl (by kernel_rfl) (fun _ _ _ h => h.elim) (Or.inl ⟨by rfl, ?yd3⟩) (.inr hSx) ?rd3
          case yd3 => (intro w' _; go_simp; try rfl)
          simp only [Act.put, List.getElem_toArray, List.getElem_cons_succ, List.getElem_cons_zero, List.setIfInBounds_toArray, List.set_cons_zero, List.set_cons_succ]
          refine wpHJ_pure (v := ?vd4) 4 hFa rfl (by kernel_rfl) (fun _ _ _ h => h.elim) (Or.inl ⟨by rfl, ?yd4⟩) (.inr hSx) ?rd4
          case yd4 => (intro w' _; go_simp; try rfl)
          simp only [Act.put, List.getElem_toArray, List.getElem_cons_succ, List.getElem_cons_zero, List.setIfInBounds_toArray, List.set_cons_zero, List.set_cons_succ]
          refine wpHJ_pure (v := ?vd5) 5 hFa rfl (by kernel_rfl) (fun _ _ _ h => h.elim) (Or.inl ⟨by rfl, ?yd5⟩) (.inr hSx) ?rd5
          case yd5 => (intro w' _; go_simp; try rfl)
          simp only [Act.put, List.getElem_toArray, List.getElem_cons_succ, List.getElem_cons_zero, List.setIfInBounds_toArray, List.set_cons_zero, List.set_cons_succ]
          refine wpHJ_pure (v := ?vd6) 6 hFa rfl (by kernel_rfl) (fun _ _ _ h => h.elim) (Or.inl ⟨by rfl, ?yd6⟩) (.inr hSx) ?rd6
          case yd6 => (intro w' _; go_simp; try rfl)
          simp only [Act.put, List.getElem_toArray, List.getElem_cons_succ, List.getElem_cons_zero, List.setIfInBounds_toArray, List.set_cons_zero, List.set_cons_succ]
          refine wpHJ_take (v := ?vd7) 7 hFa rfl (by kernel_rfl) (fun _ _ _ h => h.elim) (Or.inl ⟨by rfl, ?yd7⟩) hSx ?rd7
          case yd7 => (intro w' hS'; obtain ⟨⟨s1, s2, s3⟩, s4⟩ := hS'; go_simp; try rfl)
          simp only [Act.put, List.getElem_toArray, List.getElem_cons_succ, List.getElem_cons_zero, List.setIfInBounds_toArray, List.set_cons_zero, List.set_cons_succ]
          refine wpHJ_pure (v := ?vd8) 8 hFa rfl (by kernel_rfl) (fun _ _ _ h => h.elim) (Or.inl ⟨by rfl, ?yd8⟩) (.inr hSx) ?rd8
          case yd8 => (intro w' _; go_simp; try rfl)
          simp only [Act.put, List.getElem_toArray, List.getElem_cons_succ, List.getElem_cons_zero, List.setIfInBounds_toArray, List.set_cons_zero, List.set_cons_succ]
          refine wpHJ_pure (v := ?vd9) 9 hFa rfl (by kernel_rfl) (fun _ _ _ h => h.elim) (Or.inl ⟨by rfl, ?yd9⟩) (.inr hSx) ?rd9
          case yd9 => (intro w' _; go_simp; try rfl)
          simp only [Act.put, List.getElem_toArray, List.getElem_cons_succ, List.getElem_cons_zero, List.setIfInBounds_toArray, List.set_cons_zero, List.set_cons_succ]
          refine wpHJ_only 10 (by kernel_rfl) rfl ?_
          intro K hK
          go_simp
          (with_reducible refine (callsIn_wide.2 HC.out).mono ?_)
          rintro e w8 ⟨v8, zs8, σ8, F8, rfl, hB, hi, hl, hf, hx⟩
          have hz : zs8.length = W := by rw [hl.len]; unfold chooseB; split; exact (by rw [List.length_map, shB_len, List.length_map]; exact HAL.out); exact (by rw [shB_len]; exact HAL.out)
          obtain ⟨p8, c8, rfl, _, _, _⟩ := hi.opn hz
          have hT8 := HTD.out.fr hf
          have hK8 := (HKD.out.step hf hx).word hi hl
          have hS8 : (fun W1 : World => (BoxS w3.heap.size (.pointer (some ⟨bb, 0, none⟩)) (.slice pi (2 * W) ci) (.slice pw (2 * W) cw)) W1 ∧ W1.cell? ⟨bx, ox + t, none⟩ = some (.int .i64 xl)) w8 := ⟨hT8.boxS, (hf.cell (k := bx) (i := ox + t) HAX.out).trans hSx.2⟩
          refine hK _ _ (.inr (.inr hS8)) ?_
          clear hK K
          refine wpHJ_pure (v := ?vd11) 11 hFa rfl (by kernel_rfl) (fun _ _ _ h => h.elim) (Or.inl ⟨by rfl, ?yd11⟩) (.inr hS8) ?rd11
          case yd11 => (intro w' _; go_simp; try rfl)
          simp only [Act.put, List.getElem_toArray, List.getElem_cons_succ, List.getElem_cons_zero, List.setIfInBounds_toArray, List.set_cons_zero, List.set_cons_succ]
          refine wpHJ_pure (v := ?vd12) 12 hFa rfl (by kernel_rfl) (fun _ _ _ h => h.elim) (Or.inl ⟨by rfl, ?yd12⟩) (.inr hS8) ?rd12
          case yd12 => (intro w' _; go_simp; try rfl)
          simp only [Act.put, List.getElem_toArray, List.getElem_cons_succ, List.getElem_cons_zero, List.setIfInBounds_toArray, List.set_cons_zero, List.set_cons_succ]
          refine wpHJ_pure (v := ?vd13) 13 hFa rfl (by kernel_rfl) (fun _ _ _ h => h.elim) (Or.inl ⟨by rfl, ?yd13⟩) (.inr hS8) ?rd13
          case yd13 => (intro w' _; go_simp; try rfl)
          simp only [Act.put, List.getElem_toArray, List.getElem_cons_succ, List.getElem_cons_zero, List.setIfInBounds_toArray, List.set_cons_zero, List.set_cons_succ]
          refine wpHJ_pure (v := ?vd14) 14 hFa rfl (by kernel_rfl) (fun _ _ _ h => h.elim) (Or.inl ⟨by rfl, ?yd14⟩) (.inr hS8) ?rd14
          case yd14 => (intro w' _; go_simp; try rfl)
          simp only [Act.put, List.getElem_toArray, List.getElem_cons_succ, List.getElem_cons_zero, List.setIfInBounds_toArray, List.set_cons_zero, List.set_cons_succ]
          refine wpHJ_only 15 (by kernel_rfl) rfl ?_
          intro K hK
          go_simp
          refine hK _ _ (.inl rfl) ?_
          clear hK K
          refine wpHJ_done (by kernel_rfl) ?_ _
          simp only [onlyN, Exit.then]
          clear hFa
          have hS := hS8.1
          clear HB HT HK HC HIA HIB hSx hS8 HKD HTD HAX HFL
          have HB := hid hB; have HT := hid hT8; have HK := hid hK8
          clear hB hT8 hK8 hi hl hf hx hz
          have hSd := hS.drew
          clear hS
          go_wp2_with fail
          have hbd : Below w8.heap.size w8 w8.drew := ⟨rfl, rfl, rfl, Nat.le_refl _, fun _ _ => rfl⟩
          have hCd := HB.out.st.c.below hbd
          have hlt := HT.out.lt
          have HCd := hid hCd
          clear hbd hCd
          have hFa : ∀ f, Fence.wide.fn f := fun _ => trivial
          refine (wpIn_wide (n := 9)).1 ?_
          refine wpIn_onlyN ?_
          refine wpIn_region_HJ (BoxS w3.heap.size (.pointer (some ⟨bb, 0, none⟩)) (.slice pi (2 * W) ci) (.slice pw (2 * W) cw)) 10 (by kernel_rfl) ?_
          simp only [List.size_toArray, List.length_cons, List.length_nil, Nat.reduceAdd]
          refine wpHJ_pure (v := ?ve0) 0 hFa rfl (by kernel_rfl) (fun _ _ _ h => h.elim) (Or.inl ⟨by rfl, ?ye0⟩) (.inr hSd) ?re0
          case ye0 => (intro w' _; go_simp; try rfl)
          simp only [Act.put, List.getElem_toArray, List.getElem_cons_succ, List.getElem_cons_zero, List.setIfInBounds_toArray, List.set_cons_zero, List.set_cons_succ]
          refine wpHJ_take (v := ?ve1) 1 hFa rfl (by kernel_rfl) (fun _ _ _ h => h.elim) (Or.inl ⟨by rfl, ?ye1⟩) hSd ?re1
          case ye1 => (intro w' hS'; obtain ⟨s1, s2, s3⟩ := hS'; go_simp; try rfl)
          simp only [Act.put, List.getElem_toArray, List.getElem_cons_succ, List.getElem_cons_zero, List.setIfInBounds_toArray, List.set_cons_zero, List.set_cons_succ]
          refine wpHJ_take (v := ?ve3) 3 hFa rfl (by kernel_rfl) (fun _ _ _ h => h.elim) (Or.inl ⟨by rfl, ?ye3⟩) hSd ?re3
          case ye3 => (intro w' hS'; obtain ⟨s1, s2, s3⟩ := hS'; go_simp; try rfl)
          simp only [Act.put, List.getElem_toArray, List.getElem_cons_succ, List.getElem_cons_zero, List.setIfInBounds_toArray, List.set_cons_zero, List.set_cons_succ]
          refine wpHJ_only 2 (by kernel_rfl) rfl ?_
          intro K hK
          go_simp
          (with_reducible refine (callsIn_wide.2 (formula_any bb _ _ HCd.out.b (good_len HCd.out.good))).mono ?_)
          rintro e wF ⟨vc, rfl, hLL, hbF⟩
          obtain ⟨pc, cc, vs, rfl, _, _, _, _, _, _⟩ := hLL.op
          have hSF := BoxS.below hSd hbF hlt
          refine hK _ _ (.inr (.inr hSF)) ?_
          clear hK K
          refine wpHJ_only 4 (by kernel_rfl) rfl ?_
          intro K hK
          go_simp
          (with_reducible refine (callsIn_wide.2 (asm_c (HCd.out.below hbF))).mono ?_)
          rintro e wA ⟨va, rfl, hva, hbA⟩
          have hSA := hSF.below hbA (Nat.lt_of_lt_of_le hlt hbF.size)
          refine hK _ _ (.inr (.inr hSA)) ?_
          clear hK K
          refine wpHJ_only 5 (by kernel_rfl) rfl ?_
          intro K hK
          go_simp
          have hdc := dec_c (w := wA) HCd.out.good HCd.out.n HCd.out.b.vars HCd.out.b.cls (hLL.keep fun k hk => ⟨Nat.lt_of_lt_of_le hk.2 hbA.size, hbA.block k hk.2⟩) (hva.weaken fun k hk => hk.2)
          (with_reducible refine (callsIn_wide.2 hdc).mono ?_)
          rintro e wK ⟨pk, ck, kk, rfl, hrk, hKO, hbK⟩
          have hbFA := below_tr' hbF hbA (Nat.le_refl _)
          have hbFK := below_tr' hbFA hbK (Nat.le_refl _)
          have hbW : Below w8.heap.size w8 wK := ⟨hbFK.os, hbFK.tape, hbFK.output, hbFK.size, hbFK.block⟩
          have hSK := hSA.below hbK (Nat.lt_of_lt_of_le hlt hbFA.size)
          have HBK := hid hbW; have HRK := hid hrk; have HKO := hid hKO
          have HFK := hid (FrB.of_below HB.out.st.c.b hbW)
          clear hdc hbF hbA hbK hbFA hbFK hbW hrk hKO hva hLL hSF hSA hSd
          refine hK _ _ (.inr (.inr hSK)) ?_
          clear hK K
          refine wpHJ_pure (v := ?ve6) 6 hFa rfl (by kernel_rfl) (fun _ _ _ h => h.elim) (Or.inl ⟨by rfl, ?ye6⟩) (.inr hSK) ?re6
          case ye6 => (intro w' _; go_simp; try rfl)
          simp only [Act.put, List.getElem_toArray, List.getElem_cons_succ, List.getElem_cons_zero, List.setIfInBounds_toArray, List.set_cons_zero, List.set_cons_succ]
          refine wpHJ_pure (v := ?ve7) 7 hFa rfl (by kernel_rfl) (fun _ _ _ h => h.elim) (Or.inl ⟨by rfl, ?ye7⟩) (.inr hSK) ?re7
          case ye7 => (intro w' _; go_simp; try rfl)
          simp only [Act.put, List.getElem_toArray, List.getElem_cons_succ, List.getElem_cons_zero, List.setIfInBounds_toArray, List.set_cons_zero, List.set_cons_succ]
          refine wpHJ_pure (v := ?ve8) 8 hFa rfl (by kernel_rfl) (fun _ _ _ h => h.elim) (Or.inl ⟨by rfl, ?ye8⟩) (.inr hSK) ?re8
          case ye8 => (intro w' _; go_simp; try rfl)
          simp only [Act.put, List.getElem_toArray, List.getElem_cons_succ, List.getElem_cons_zero, List.setIfInBounds_toArray, List.set_cons_zero, List.set_cons_succ]
          refine wpHJ_pure (v := ?ve9) 9 hFa rfl (by kernel_rfl) (fun _ _ _ h => h.elim) (Or.inl ⟨by rfl, ?ye9⟩) (.inr hSK) ?re9
          case ye9 => (intro w' _; go_simp; try rfl)
          simp only [Act.put, List.getElem_toArray, List.getElem_cons_succ, List.getElem_cons_zero, List.setIfInBounds_toArray, List.set_cons_zero, List.set_cons_succ]
          refine wpHJ_only 10 (by kernel_rfl) rfl ?_
          intro K hK
          go_simp
          refine hK _ _ (.inl rfl) ?_
          clear hK K
          refine wpHJ_done (by kernel_rfl) ?_ _
          simp only [onlyN, Exit.then]
          clear hFa
          clear hSK
          have HKW := hid (HK.out.fr HFK.out)
          have v1 := valc_of (ck := ck) HKW.out HKO.out HB.out.st.c.b.vars HRK.out (v := .slice p5 W c5) (zs := zs5) (bs := shB 14 ax ay) (by simp) (by rw [shB_len, HAL.out]; exact hW64)
          have v2 := valc_of (ck := ck) HKW.out HKO.out HB.out.st.c.b.vars HRK.out (v := .slice p8 W c8) (zs := zs8) (bs := chooseB (ax.getD (ax.length - 1) false) ((shB 13 (ax.map (!·)) ay).map (!·)) (shB 13 ax ay)) (by simp) (by rw [← shB_signed ax ay (by rw [HAL.out]; exact hW1), shB_len, HAL.out]; exact hW64)
          rw [← shB_signed ax ay (by rw [HAL.out]; exact hW1)] at v2
          generalize valB (shB 14 ax ay) = vv1 at *
          have H1 := hid v1; have H2 := hid v2
          have HBF := hid (below_tr' (below_tr' HBC.out HB.out.st.fr (Nat.le_refl _)) HBK.out (Nat.le_refl _))
          clear v1 v2 HKW HKO HRK HB HT HK
          have q0 := Quiet.refl wK
          go_wp2_with fail
          (with_reducible refine (H1.out.use q0).mono ?_)
          rintro e u1 ⟨rfl, q1⟩
          go_wp2_with fail
          (with_reducible refine (H2.out.use q1).mono ?_)
          rintro e u2 ⟨rfl, q2⟩
          obtain ⟨m2, rfl⟩ := q2
          have hbw := below_drewN HBF.out m2
          have HAW2 := hid (awake18_any _ (HO.out.below hbw HO.out.lt))
          have HBW := hid hbw
          clear hbw q0 q1 H1 H2
          go_wp2_with fail
          (with_reducible refine HAW2.out.mono ?_)
          rintro e wz ⟨rfl, hbz⟩
          have HBZ := hid (below_tr' HBW.out hbz (Nat.le_refl _))
          clear hbz
          go_wp2
          go_ret
          exact ⟨rfl, HBZ.out⟩

end Go.Proofs.YtjcnhnifageikaaDoor
