/-
  Package muldiv: Mul, walked.
-/
import Derived.Test.YtngimdbjcelkeaaMd3
namespace Go.Proofs.Ytngimdbjcelkeaa
set_option linter.unusedSimpArgs false
set_option linter.unusedVariables false
open Go.RowKit Go.Shelf
attribute [local go_sem] Oper.semAt_some

theorem MulO.zero {w0 w w1 : World} {bb n V K m : Nat} {vin vval : Value} {σ : Nat → Bool} {F : Form} {a b : List Bool} (h : Bas w0 bb n vin vval V K w σ F) (hB1 : IsB w1 bb F) (hf1 : FrB bb w w1) :
    MulO w0 w bb n vin vval V K σ F w1.heap.size m 0 [] a b (w1.alloc (.cells (Array.replicate m (.slice none 0 0)) 23)) σ F := by
  have h1 := h.same hf1 hB1
  have hb : Below w1.heap.size w1 (w1.alloc (.cells (Array.replicate m (.slice none 0 0)) 23)) := (Below.refl _ _).alloc (Nat.le_refl _) _
  refine ⟨(h1.fr hb).mono (by omega) (by omega), Ext.refl h.st.c.good _ _, hf1.trans (FrB.of_below hB1 hb), ⟨hB1.away_new hb (Nat.le_refl _) (by simp), ?_⟩, rfl, (fun x hx => by cases hx), by simp [partsB], (fun x hx => by cases hx), hf1.size, h.st.fr.size, h.st.c.inp, h.st.c.val⟩
  rw [heap_al, if_pos rfl]
  simp

set_option maxRecDepth 100000 in
set_option maxHeartbeats 3200000 in
theorem mul_c {w0 w : World} {bb n V K m : Nat} {vin vval vx vy : Value} {σ : Nat → Bool} {F : Form} {xs ys : List Int} {a b : List Bool} (h : Bas w0 bb n vin vval V K w σ F) (h1 : 1 ≤ m) (h64 : m ≤ 64) (ix : Ints (Away bb w) w vx xs) (iy : Ints (Away bb w) w vy ys)
    (lx : LitsAre σ F xs a) (ly : LitsAre σ F ys b) (la : a.length = m) (lb : b.length = m) (hV : V + m * m + 3 * m * (m - 1) < 1048576) (hK : K + 6 * (m * m) + 18 * m * (m - 1) + 6 ≤ 1048576) :
    Calls Try.prog 59 #[.pointer (some ⟨bb, 0, none⟩), vx, vy] w (BasW w0 bb n vin vval V K w σ F (ofB m (valB a * valB b)) (m * m + 3 * m * (m - 1)) (6 * (m * m) + 18 * m * (m - 1))) := by
  have hxl := lx.len.trans la
  have hyl := ly.len.trans lb
  have HCK := hid (mcheck_ok bb F xs ys vx vy w h.st.c.b ix iy m h1 h64 hxl hyl lx.1 ly.1)
  obtain ⟨px, cx, rfl, _, _, hrx⟩ := ix.opn hxl
  obtain ⟨py, cy, rfl, _, _, hry⟩ := iy.opn hyl
  have hmk1 : ∀ w : World, (Instr.makeSlice 50 (.int .i64 (m : Int)) (.int .i64 (m : Int))).run Try.prog w = .ok (.slice (some ⟨w.heap.size, 0, none⟩) m m) (w.alloc (.cells (Array.replicate m (.slice none 0 0)) 23)) := fun w =>
    make_run (P := Try.prog) Try.underlying50 info_ints rfl m (by omega) (by omega) w
  have hmk2 : ∀ w : World, (Instr.makeSlice 23 (.int .i64 (m : Int)) (.int .i64 (m : Int))).run Try.prog w = .ok (.slice (some ⟨w.heap.size, 0, none⟩) m m) (w.alloc (.cells (Array.replicate m (.int .i64 0)) 3)) := fun w =>
    make_run (P := Try.prog) Try.underlying23 info_int rfl m (by omega) (by omega) w
  have HH := hid h; have HRX := hid hrx; have HRY := hid hry; have HLX := hid lx; have HLY := hid ly; have HLA := hid la; have HLB := hid lb; have HXL := hid hxl; have HYL := hid hyl
  have HV := hid (And.intro hV hK)
  have HMU : ∀ q, q + 1 ≤ m → m * q + m ≤ m * m := fun q hq => by rw [← Nat.mul_succ]; exact Nat.mul_le_mul_left m hq
  have HMM := hid HMU
  clear HMU h hrx hry lx ly la lb hxl hyl ix iy hV hK
  go_enter Try.func59, Try.ntmps59
  go_wp2_with (go_at_call 100; refine HCK.out.mono ?_; rintro e w1 ⟨rfl, hB1, hf1⟩; have HB1 := hid hB1; have HF1 := hid hf1; clear hB1 hf1)
  have h0 := MulO.zero (m := m) (a := a) (b := b) HH.out HB1.out HF1.out
  generalize hB0 : w1.heap.size = B0 at *
  generalize hw2 : World.alloc w1 _ = w2 at *
  clear hw2 hB0
  have H0 := hid h0
  clear h0 HB1 HF1 HCK
  go_loopw [27] (fun i wr => ∃ (j : Nat) (σj : Nat → Bool) (Fj : Form) (ws : List (Value × List Int × List Bool)), j ≤ m ∧ i = .int .i64 j ∧ MulO w0 w bb n vin vval V K σ F B0 m j ws a b wr σj Fj) (fun i _ => m - (intOf i).toNat)
  case atStart => exact ⟨0, σ, F, [], by omega, rfl, H0.out⟩
  case round =>
    obtain ⟨j, σj, Fj, ws, hj, rfl, hO⟩ := hrel
    obtain ⟨wo, rfl⟩ : ∃ wo : World, wo = wr := ⟨_, rfl⟩
    by_cases hlt : j < m
    · have hjy : j < ys.length := by have := HYL.out; omega
      obtain ⟨by_, oy, rfl, _, hcy⟩ := (HRY.out.fr hO.frw).atI j hjy
      have dy := hcy j hjy
      have hyl : LitIs σj Fj ys[j] (b[j]'(by have := HLB.out; omega)) := by
        have hh := HLY.out.ext hO.ext
        refine ⟨hh.1 _ (List.getElem_mem hjy), ?_⟩
        have := List.getElem_of_eq hh.2 (i := j) (by rw [List.length_map]; exact hjy)
        rw [List.getElem_map] at this
        exact this
      have hR : wo.heap.size ≠ B0 := by have := hO.b0.lt; omega
      have hb0lt := hO.b0.lt
      have hmmj := HMM.out j (by omega)
      have e0 : (wo.alloc (.cells (Array.replicate m (.int .i64 0)) 3)).cell? ⟨B0, j, none⟩ = some (.slice none 0 0) := by
        rw [World.cell?_alloc_old _ _ _ (by show B0 ≠ _; omega), cell_of_cells hO.b0.2]
        simp only [List.getElem?_toArray]
        rw [List.getElem?_append_right (by rw [List.length_map, hO.wl]; exact Nat.le_refl _), List.length_map, hO.wl, Nat.sub_self, List.getElem?_replicate]
        rw [if_pos (by omega)]
      have e1 : (wo.alloc (.cells (Array.replicate m (.int .i64 0)) 3)).frozen? ⟨B0, j, none⟩ = false := by
        rw [World.frozen?_alloc_old _ _ _ (by show B0 ≠ _; omega)]
        exact frozen_of_cells hO.b0.2
      have HST := hid (fun W' hW => hO.start hlt W' hW)
      have HO := hid hO; have HYJ := hid hyl; have HLBJ := hid (show j < b.length by have := HLB.out; omega)
      clear hcy hyl hO
      generalize ys[j] = y at *
      generalize hbj : b[j]'(HLBJ.out) = bj at *
      have HBJ := hid hbj; clear hbj
      go_wp2_with fail
      have hI := HST.out _ rfl
      generalize ((wo.setCell ⟨B0, j, none⟩ (.slice (some ⟨wo.heap.size, 0, none⟩) m m)).alloc (.cells (Array.replicate m (.int .i64 0)) 3)) = W2 at *
      generalize hcs : (ws.map (·.1) ++ Value.slice (some ⟨wo.heap.size, 0, none⟩) m m :: List.replicate (m - (j + 1)) (Value.slice none 0 0)) = cs at *
      have hcj : cs[j]? = some (.slice (some ⟨wo.heap.size, 0, none⟩) m m) := by
        rw [← hcs, List.getElem?_append_right (by rw [List.length_map, HO.out.wl]; exact Nat.le_refl _), List.length_map, HO.out.wl, Nat.sub_self]; rfl
      have HCS := hid hcs; have HCJ := hid hcj; have HI0 := hid hI
      clear HST e0 e1 hcs hcj hI
      go_loopw [40] (fun i wr => ∃ (k : Nat) (zs : List Int) (σk : Nat → Bool) (Fk : Form), k ≤ m ∧ i = .int .i64 k ∧ MulI w0 w wo bb n vin vval (V + m * j + k) (K + 6 * (m * j) + 6 * k) k (6 * k) σj Fj B0 wo.heap.size m cs k zs ((partB m a j bj).take k) wr σk Fk) (fun i _ => m - (intOf i).toNat)
      case atStart => exact ⟨0, [], σj, Fj, by omega, rfl, HI0.out⟩
      case round =>
        obtain ⟨k, zs, σk, Fk, hk, rfl, hI⟩ := hrel
        obtain ⟨wp, rfl⟩ : ∃ wp : World, wp = wr := ⟨_, rfl⟩
        by_cases hlk : k < m
        · have hrc := hI.r.2
          have hbc := hI.b0.2
          have g0 : wp.cell? ⟨B0, j, none⟩ = some (.slice (some ⟨wo.heap.size, 0, none⟩) m m) := by rw [cell_of_cells hbc]; simpa using HCJ.out
          have g1 : wp.cell? ⟨wo.heap.size, k, none⟩ = some (.int .i64 0) := by
            rw [cell_of_cells hrc]
            simp only [List.getElem?_toArray]
            rw [List.map_append, List.getElem?_append_right (by rw [List.length_map, hI.zl]; exact Nat.le_refl _), List.length_map, hI.zl, Nat.sub_self, List.map_replicate, List.getElem?_replicate, if_pos (by omega)]
          have g2 : wp.frozen? ⟨wo.heap.size, k, none⟩ = false := frozen_of_cells hrc
          have hsn : (partB m a j bj).take (k + 1) = (partB m a j bj).take k ++ [if h : k < j then false else ((a[k - j]'(by have := HLA.out; omega)) && bj)] := by
            rw [List.take_succ_eq_append_getElem (by rw [partB_len HLA.out]; exact hlk), partB_get HLA.out _ _ _ hlk]
          by_cases hkj : k < j
          · rw [dif_pos hkj] at hsn
            have HSN := hid hsn
            have hst := ((hI.mono (V' := V + m * j + (k + 1)) (K' := K + 6 * (m * j) + 6 * (k + 1)) (dv' := k + 1) (dc' := 6 * (k + 1)) (by omega) (by omega) (by omega) (by omega)).store hlk (show LitIs σk Fk (-1) false from ⟨ok_neg hI.bas.st.c.good.ok1, hI.bas.st.c.good.tm1⟩)).drew
            rw [← hsn] at hst
            have HS2 := hid hst
            clear hrc hbc hsn hst
            go_wp2_with fail
            have hS : (fun W1 : World => W1.cell? ⟨B0, j, none⟩ = some (.slice (some ⟨wo.heap.size, 0, none⟩) m m)) wp.drew := g0
            have hFa : ∀ f, Fence.wide.fn f := fun _ => trivial
            refine (wpIn_wide (n := 9)).1 ?_
            refine wpIn_onlyN ?_
            refine wpIn_region_HJ (fun W1 : World => W1.cell? ⟨B0, j, none⟩ = some (.slice (some ⟨wo.heap.size, 0, none⟩) m m)) 9 (by kernel_rfl) ?_
            simp only [List.size_toArray, List.length_cons, List.length_nil, Nat.reduceAdd]
            refine wpHJ_pure (v := ?va0) 0 hFa rfl (by kernel_rfl) (fun _ _ _ h => h.elim) (Or.inl ⟨by rfl, ?ya0⟩) (.inr hS) ?ra0
            case ya0 => (intro w' _; go_simp; try rfl)
            simp only [Act.put, List.getElem_toArray, List.getElem_cons_succ, List.getElem_cons_zero, List.setIfInBounds_toArray, List.set_cons_zero, List.set_cons_succ]
            refine wpHJ_pure (v := ?va1) 1 hFa rfl (by kernel_rfl) (fun _ _ _ h => h.elim) (Or.inl ⟨by rfl, ?ya1⟩) (.inr hS) ?ra1
            case ya1 => (intro w' _; go_simp; try rfl)
            simp only [Act.put, List.getElem_toArray, List.getElem_cons_succ, List.getElem_cons_zero, List.setIfInBounds_toArray, List.set_cons_zero, List.set_cons_succ]
            refine wpHJ_pure (v := ?va2) 2 hFa rfl (by kernel_rfl) (fun _ _ _ h => h.elim) (Or.inl ⟨by rfl, ?ya2⟩) (.inr hS) ?ra2
            case ya2 => (intro w' _; go_simp; try rfl)
            simp only [Act.put, List.getElem_toArray, List.getElem_cons_succ, List.getElem_cons_zero, List.setIfInBounds_toArray, List.set_cons_zero, List.set_cons_succ]
            refine wpHJ_take (v := ?va3) 3 hFa rfl (by kernel_rfl) (fun _ _ _ h => h.elim) (Or.inl ⟨by rfl, ?ya3⟩) hS ?ra3
            case ya3 => (intro w' hS'; obtain s1 := hS'; go_simp; try rfl)
            simp only [Act.put, List.getElem_toArray, List.getElem_cons_succ, List.getElem_cons_zero, List.setIfInBounds_toArray, List.set_cons_zero, List.set_cons_succ]
            refine wpHJ_pure (v := ?va4) 4 hFa rfl (by kernel_rfl) (fun _ _ _ h => h.elim) (Or.inl ⟨by rfl, ?ya4⟩) (.inr hS) ?ra4
            case ya4 => (intro w' _; go_simp; try rfl)
            simp only [Act.put, List.getElem_toArray, List.getElem_cons_succ, List.getElem_cons_zero, List.setIfInBounds_toArray, List.set_cons_zero, List.set_cons_succ]
            refine wpHJ_pure (v := ?va5) 5 hFa rfl (by kernel_rfl) (fun _ _ _ h => h.elim) (Or.inl ⟨by rfl, ?ya5⟩) (.inr hS) ?ra5
            case ya5 => (intro w' _; go_simp; try rfl)
            simp only [Act.put, List.getElem_toArray, List.getElem_cons_succ, List.getElem_cons_zero, List.setIfInBounds_toArray, List.set_cons_zero, List.set_cons_succ]
            refine wpHJ_only 6 (by kernel_rfl) rfl ?_
            intro K hK
            go_simp
            refine (callsIn_wide.2 (true_any bb _)).mono ?_
            rintro e w' ⟨rfl, rfl⟩
            refine hK _ _ (.inr (.inr hS)) ?_
            clear hK K
            refine wpHJ_pure (v := ?va7) 7 hFa rfl (by kernel_rfl) (fun _ _ _ h => h.elim) (Or.inl ⟨by rfl, ?ya7⟩) (.inr hS) ?ra7
            case ya7 => (intro w' _; go_simp; try rfl)
            simp only [Act.put, List.getElem_toArray, List.getElem_cons_succ, List.getElem_cons_zero, List.setIfInBounds_toArray, List.set_cons_zero, List.set_cons_succ]
            refine wpHJ_pure (v := ?va8) 8 hFa rfl (by kernel_rfl) (fun _ _ _ h => h.elim) (Or.inl ⟨by rfl, ?ya8⟩) (.inr hS) ?ra8
            case ya8 => (intro w' _; go_simp; try rfl)
            simp only [Act.put, List.getElem_toArray, List.getElem_cons_succ, List.getElem_cons_zero, List.setIfInBounds_toArray, List.set_cons_zero, List.set_cons_succ]
            refine wpHJ_only 9 (by kernel_rfl) rfl ?_
            intro K hK
            go_simp
            refine hK _ _ (.inl rfl) ?_
            clear hK K
            refine wpHJ_done (by kernel_rfl) ?_ _
            simp only [onlyN, Exit.then]
            clear hFa
            rw [wrap_m1]
            clear hS
            have HZL := hid (show (zs ++ [(-1 : Int)]).length = k + 1 by rw [List.length_append, hI.zl]; rfl)
            clear hI g0 g1 g2
            go_wp2
            go_roundw
            case rel => exact ⟨k + 1, zs ++ [-1], σk, Fk, by omega, by go_num, HS2.out⟩
            case measure => simp [intOf]; omega
          · rw [dif_neg hkj] at hsn
            obtain ⟨q, hq, hqn⟩ : ∃ q : Nat, (k : Int) - (j : Int) = (q : Int) ∧ k - j = q := ⟨k - j, by omega, rfl⟩
            have hqx : q < xs.length := by have := HXL.out; omega
            have hqa : q < a.length := by have := HLA.out; omega
            obtain ⟨bx, ox, rfl, _, hcx⟩ := (HRX.out.fr hI.frw).atI q hqx
            have dx := hcx q hqx
            have hh := (HLX.out.ext HO.out.ext).ext hI.ext
            have hxl : LitIs σk Fk xs[q] (a[q]'hqa) := by
              refine ⟨hh.1 _ (List.getElem_mem hqx), ?_⟩
              have := List.getElem_of_eq hh.2 (i := q) (by rw [List.length_map]; exact hqx)
              rw [List.getElem_map] at this
              exact this
            have hyl := HYJ.out.ext hI.ext
            have HC := hid (hI.bas.and hxl hyl (by have := HV.out.1; omega) (by have := HV.out.2; omega))
            have hsn2 : (partB m a j bj).take (k + 1) = (partB m a j bj).take k ++ [(a[q]'hqa) && bj] := by rw [hsn]; simp only [hqn]
            have HSN := hid hsn2; have HI := hid hI; have HQN := hid hqn
            clear hrc hbc hsn hsn2 hcx hh hxl hyl g0 g1 g2 hI hqn
            generalize xs[q] = x at *
            go_wp2_with fail
            (with_reducible refine HC.out.mono ?_)
            rintro e w5 ⟨z5, σ5, F5, rfl, hB5, hl5, hf5, hx5⟩
            have hI5 := HI.out.gate hB5 hf5 hx5
            have hrc := hI5.r.2
            have hbc := hI5.b0.2
            have g0 : w5.cell? ⟨B0, j, none⟩ = some (.slice (some ⟨wo.heap.size, 0, none⟩) m m) := by rw [cell_of_cells hbc]; simpa using HCJ.out
            have g1 : w5.cell? ⟨wo.heap.size, k, none⟩ = some (.int .i64 0) := by
              rw [cell_of_cells hrc]
              simp only [List.getElem?_toArray]
              rw [List.map_append, List.getElem?_append_right (by rw [List.length_map, hI5.zl]; exact Nat.le_refl _), List.length_map, hI5.zl, Nat.sub_self, List.map_replicate, List.getElem?_replicate, if_pos (by omega)]
            have g2 : w5.frozen? ⟨wo.heap.size, k, none⟩ = false := frozen_of_cells hrc
            have hst := (hI5.mono (V' := V + m * j + (k + 1)) (K' := K + 6 * (m * j) + 6 * (k + 1)) (dv' := k + 1) (dc' := 6 * (k + 1)) (by omega) (by omega) (by omega) (by omega)).store hlk hl5
            rw [← HSN.out] at hst
            have HS2 := hid hst
            clear hrc hbc hst hI5 hB5 hl5 hf5 hx5 HC HI dx hq
            go_wp2
            go_roundw
            case rel => exact ⟨k + 1, zs ++ [z5], σ5, F5, by omega, by go_num, HS2.out⟩
            case measure => simp [intOf]; omega
        · obtain rfl : k = m := by omega
          rw [List.take_of_length_le (by rw [partB_len HLA.out]; exact Nat.le_refl _)] at hI
          have hN := HO.out.next hlt h64 HLB.out HLA.out (W' := wp) (σ' := σk) (F' := Fk) (zs := zs) (wR := 0) (by rw [HCS.out, HBJ.out]; exact hI)
          have HN := hid hN
          clear hN hI
          go_wp2
          go_roundw
          case rel => exact ⟨j + 1, σk, Fk, _, by omega, by go_num, HN.out⟩
          case measure => simp [intOf]; omega
    · obtain rfl : j = m := by omega
      have hb := hO.bits
      rw [List.take_of_length_le (by have := HLB.out; omega)] at hb
      have hcells := hO.b0.2
      rw [Nat.sub_self, List.replicate_zero, List.append_nil] at hcells
      have hrow : RowR (Away bb wo) wo (some ⟨B0, 0, none⟩) (ws.map (·.1)) := .inr ⟨B0, 0, rfl, hO.b0.1, fun q hq => by
        rw [Nat.zero_add, cell_of_cells hcells]; simp only [List.getElem?_toArray]; exact List.getElem?_eq_getElem hq⟩
      have hkit : Kit bb wo σj Fj ws [] := ⟨fun x hx => ⟨(hO.rows x hx).1.weaken fun q hq => hq.1, (hO.rows x hx).2⟩, fun x hx => by cases hx⟩
      have HC := hid (sum_c j h1 h64 j hO.bas ws hkit hO.lens (some ⟨B0, 0, none⟩) j j hO.wl.symm (Nat.le_refl _) h1 h64 (Nat.le_refl _) (by unfold maxLen; omega) hrow (by have := HV.out.1; omega) (by have := HV.out.2; omega))
      have HB := hid hb; have HO := hid hO
      clear hb hcells hrow hkit hO
      go_wp2_with fail
      (with_reducible refine HC.out.mono ?_)
      rintro e w5 ⟨v5, zs5, σ5, F5, rfl, hB5, hi5, hl5, hf5, hx5⟩
      rw [HB.out, partsB_mul] at hl5
      have hx := HO.out.ext.trans hx5 (Nat.le_refl _) (Nat.le_refl _)
      have hz5 : zs5.length = j := by rw [hl5.len, ofB_len]
      obtain ⟨p5, c5, rfl, _, _, _⟩ := hi5.opn hz5
      have HFIN := hid (show BasW w0 bb n vin vval V K w σ F (ofB j (valB a * valB b)) (j * j + 3 * j * (j - 1)) (6 * (j * j) + 18 * j * (j - 1)) (.returned (.tuple #[.slice p5 j c5, .int .i64 0])) w5 from
        ⟨_, zs5, σ5, F5, rfl, hB5.mono (by omega) (by omega), hi5, hl5, HO.out.frw.trans hf5, hx⟩)
      clear hB5 hi5 hl5 hf5 hx5 hx HC HO hz5
      go_wp2
      go_ret2
      exact HFIN.out

end Go.Proofs.Ytngimdbjcelkeaa
