/-
  Package muldiv: the walk of Div.
-/
import Derived.Test.YtngimdbjcelkeaaMd7
namespace Go.Proofs.Ytngimdbjcelkeaa
set_option linter.unusedSimpArgs false
set_option linter.unusedVariables false
open Go.RowKit Go.Shelf
attribute [local go_sem] Oper.semAt_some

/-- Two blocks of zeros are laid. -/
theorem DivA.two {w0 w w1 : World} {bb n V K m : Nat} {vin vval : Value} {σ : Nat → Bool} {F : Form} (h : Bas w0 bb n vin vval V K w σ F) (hB1 : IsB w1 bb F) (hf1 : FrB bb w w1) :
    DivA w0 w bb n vin vval V K w1.heap.size (w1.heap.size + 1) m 0 ((w1.alloc (.cells (Array.replicate m (.int .i64 0)) 3)).alloc (.cells (Array.replicate m (.int .i64 0)) 3)).drew σ F ∧
    DivA w0 w bb n vin vval V K (w1.heap.size + 1) w1.heap.size m 0 ((w1.alloc (.cells (Array.replicate m (.int .i64 0)) 3)).alloc (.cells (Array.replicate m (.int .i64 0)) 3)).drew σ F := by
  obtain ⟨wd, hwd⟩ : ∃ wd, ((w1.alloc (.cells (Array.replicate m (.int .i64 0)) 3)).alloc (.cells (Array.replicate m (.int .i64 0)) 3)).drew = wd := ⟨_, rfl⟩
  have hb : Below w1.heap.size w1 wd := by
    rw [← hwd]
    exact (((Below.refl _ _).alloc (Nat.le_refl _) _).alloc (by simp only [World.size_alloc]; omega) _).drew
  have hsz : wd.heap.size = w1.heap.size + 2 := by
    rw [← hwd]
    show ((w1.alloc _).alloc _).heap.size = _
    simp only [World.size_alloc]
  have c0 : wd.heap[w1.heap.size]? = some (.cells ((List.replicate m (0 : Int)).map (Value.int .i64)).toArray 3 (0, 0)) := by
    rw [← hwd]
    show ((w1.alloc _).alloc _).heap[w1.heap.size]? = _
    rw [heap_al, if_neg (by simp only [World.size_alloc]; omega), heap_al, if_pos rfl]
    simp
  have c1 : wd.heap[w1.heap.size + 1]? = some (.cells ((List.replicate m (0 : Int)).map (Value.int .i64)).toArray 3 (0, 0)) := by
    rw [← hwd]
    show ((w1.alloc _).alloc _).heap[w1.heap.size + 1]? = _
    rw [heap_al, if_pos (by simp only [World.size_alloc])]
    simp
  have hB := h.same hf1 hB1
  have hf := hf1.trans (FrB.of_below hB1 hb)
  have a0 := hB1.away_new hb (k := w1.heap.size) (Nat.le_refl _) (by omega)
  have a1 := hB1.away_new hb (k := w1.heap.size + 1) (by omega) (by omega)
  have hs := hf1.size
  rw [hwd]
  have z : (List.replicate 0 (-1 : Int) ++ List.replicate (m - 0) 0) = List.replicate m 0 := rfl
  exact ⟨⟨hB.fr hb, hf, ⟨a0, c0⟩, ⟨a1, by rw [z]; exact c1⟩, by omega, hs, by omega, h.st.fr.size, h.st.c.inp, h.st.c.val⟩, ⟨hB.fr hb, hf, ⟨a1, c1⟩, ⟨a0, by rw [z]; exact c0⟩, by omega, by omega, hs, h.st.fr.size, h.st.c.inp, h.st.c.val⟩⟩

set_option maxRecDepth 100000 in
set_option maxHeartbeats 6400000 in
theorem div_c {w0 w : World} {bb n V K m : Nat} {vin vval vx vy : Value} {σ : Nat → Bool} {F : Form} {xs ys : List Int} {a b : List Bool} (h : Bas w0 bb n vin vval V K w σ F) (h1 : 1 ≤ m) (h64 : m ≤ 64) (ix : Ints (Away bb w) w vx xs) (iy : Ints (Away bb w) w vy ys)
    (lx : LitsAre σ F xs a) (ly : LitsAre σ F ys b) (la : a.length = m) (lb : b.length = m) (hV : V + m * (6 * m + 1) < 1048576) (hK : K + m * (36 * m + 6) ≤ 1048576) :
    Calls Try.prog 60 #[.pointer (some ⟨bb, 0, none⟩), vx, vy] w (DivP w0 bb n vin vval V K w σ F (ofB m (divQ m (valB a) (valB b))) (ofB m (valB a % valB b)) (m * (6 * m + 1)) (m * (36 * m + 6))) := by
  have hxl := lx.len.trans la
  have hyl := ly.len.trans lb
  have HCK := hid (mcheck_ok bb F xs ys vx vy w h.st.c.b ix iy m h1 h64 hxl hyl lx.1 ly.1)
  obtain ⟨px, cx, rfl, _, _, hrx⟩ := ix.opn hxl
  obtain ⟨py, cy, rfl, _, _, hry⟩ := iy.opn hyl
  have hmk2 : ∀ w : World, (Instr.makeSlice 23 (.int .i64 (m : Int)) (.int .i64 (m : Int))).run Try.prog w = .ok (.slice (some ⟨w.heap.size, 0, none⟩) m m) (w.alloc (.cells (Array.replicate m (.int .i64 0)) 3)) := fun w =>
    make_run (P := Try.prog) Try.underlying23 info_int rfl m (by omega) (by omega) w
  have HH := hid h; have HRX := hid hrx; have HIY := hid iy; have HLX := hid lx; have HLY := hid ly; have HLA := hid la; have HLB := hid lb; have HXL := hid hxl; have HYL := hid hyl
  have HV := hid (And.intro hV hK)
  clear h hrx hry lx ly la lb hxl hyl ix iy hV hK
  go_enter Try.func60, Try.ntmps60
  go_wp2_with (go_at_call 100; refine HCK.out.mono ?_; rintro e w1 ⟨rfl, hB1, hf1⟩; have HB1 := hid hB1; have HF1 := hid hf1; clear hB1 hf1)
  have hS : (fun W1 : World => True) w1.drew := trivial
  have hFa : ∀ f, Fence.wide.fn f := fun _ => trivial
  refine (wpIn_wide (n := 9)).1 ?_
  refine wpIn_onlyN ?_
  refine wpIn_region_HJ (fun W1 : World => True) 7 (by kernel_rfl) ?_
  simp only [List.size_toArray, List.length_cons, List.length_nil, Nat.reduceAdd]
  refine wpHJ_pure (v := ?va0_1) 0 hFa rfl (by kernel_rfl) (fun _ _ _ h => h.elim) (Or.inl ⟨by rfl, ?ya0_1⟩) (.inr hS) ?ra0_1
  case ya0_1 => (intro w' _; go_simp; try rfl)
  simp only [Act.put, List.getElem_toArray, List.getElem_cons_succ, List.getElem_cons_zero, List.setIfInBounds_toArray, List.set_cons_zero, List.set_cons_succ]
  refine wpHJ_pure (v := ?va1_2) 1 hFa rfl (by kernel_rfl) (fun _ _ _ h => h.elim) (Or.inl ⟨by rfl, ?ya1_2⟩) (.inr hS) ?ra1_2
  case ya1_2 => (intro w' _; go_simp; try rfl)
  simp only [Act.put, List.getElem_toArray, List.getElem_cons_succ, List.getElem_cons_zero, List.setIfInBounds_toArray, List.set_cons_zero, List.set_cons_succ]
  refine wpHJ_pure (v := ?va3_4) 3 hFa rfl (by kernel_rfl) (fun _ _ _ h => h.elim) (Or.inl ⟨by rfl, ?ya3_4⟩) (.inr hS) ?ra3_4
  case ya3_4 => (intro w' _; go_simp; try rfl)
  simp only [Act.put, List.getElem_toArray, List.getElem_cons_succ, List.getElem_cons_zero, List.setIfInBounds_toArray, List.set_cons_zero, List.set_cons_succ]
  refine wpHJ_pure (v := ?va4_6) 4 hFa rfl (by kernel_rfl) (fun _ _ _ h => h.elim) (Or.inl ⟨by rfl, ?ya4_6⟩) (.inr hS) ?ra4_6
  case ya4_6 => (intro w' _; go_simp; try rfl)
  simp only [Act.put, List.getElem_toArray, List.getElem_cons_succ, List.getElem_cons_zero, List.setIfInBounds_toArray, List.set_cons_zero, List.set_cons_succ]
  refine wpHJ_two 2 5 (by kernel_rfl) rfl rfl ?_ ?_
  · intro K hK
    go_simp
    refine hK _ _ (.inr (.inr hS)) ?_
    clear hK K
    refine wpHJ_pure (v := ?va6_10) 6 hFa rfl (by kernel_rfl) (fun _ _ _ h => h.elim) (Or.inl ⟨by rfl, ?ya6_10⟩) (.inr hS) ?ra6_10
    case ya6_10 => (intro w' _; go_simp; try rfl)
    simp only [Act.put, List.getElem_toArray, List.getElem_cons_succ, List.getElem_cons_zero, List.setIfInBounds_toArray, List.set_cons_zero, List.set_cons_succ]
    refine wpHJ_only 5 (by kernel_rfl) rfl ?_
    intro K hK
    go_simp
    refine hK _ _ (.inr (.inr hS)) ?_
    clear hK K
    refine wpHJ_only 7 (by kernel_rfl) rfl ?_
    intro K hK
    go_simp
    refine hK _ _ (.inl rfl) ?_
    clear hK K
    refine wpHJ_done (by kernel_rfl) ?_ _
    simp only [onlyN, Exit.then]
    clear hFa
    have hA := (DivA.two (m := m) HH.out HB1.out HF1.out).1
    clear hS
    obtain ⟨w2, hw2⟩ : ∃ w2, ((w1.alloc (.cells (Array.replicate m (.int .i64 0)) 3)).alloc (.cells (Array.replicate m (.int .i64 0)) 3)).drew = w2 := ⟨_, rfl⟩
    rw [hw2] at hA
    rw [hw2]
    clear hw2
    generalize w1.heap.size + 1 = Q1 at *
    generalize w1.heap.size = Q0 at *
    have HA := hid hA
    clear hA
    go_wp2_with fail
    go_loopw [27] (fun i wr => ∃ k : Nat, k ≤ m ∧ i = .int .i64 k ∧ DivA w0 w bb n vin vval V K Q0 Q1 m k wr σ F) (fun i _ => m - (intOf i).toNat)
    case atStart => exact ⟨0, by omega, rfl, HA.out⟩
    case round =>
      obtain ⟨k, hk, rfl, hA⟩ := hrel
      obtain ⟨wo, rfl⟩ : ∃ wo : World, wo = wr := ⟨_, rfl⟩
      by_cases hlt : k < m
      · have g1 : wo.cell? ⟨Q1, k, none⟩ = some (.int .i64 0) := by
          rw [cell_of_cells hA.r.2]
          simp only [List.getElem?_toArray]
          rw [List.map_append, List.getElem?_append_right (by simp), List.length_map, List.length_replicate, Nat.sub_self, List.map_replicate, List.getElem?_replicate, if_pos (by omega)]
        have g2 : wo.frozen? ⟨Q1, k, none⟩ = false := frozen_of_cells hA.r.2
        have HS := hid (hA.store hlt)
        clear hA
        go_wp2_with (go_at_call 31; refine (true_any bb _).mono ?_; rintro e w' ⟨rfl, rfl⟩)
        go_roundw
        case rel => exact ⟨k + 1, by omega, by go_num, HS.out⟩
        case measure => simp [intOf]; omega
      · obtain rfl : k = m := by omega
        have hL := hA.go (b := b) (x := a) h1 h64 HLA.out
        have HL := hid hL
        clear hA hL
        have em : (k : Int) - 1 = ((k : Nat) : Int) - 1 := rfl
        go_wp2_with fail
        go_loopw [6, 7, 8, 11] (fun vq vr e i wr => ∃ (s : Nat) (zq : List Int) (p : Option Addr) (c : Nat) (zr : List Int) (σt : Nat → Bool) (Ft : Form), s ≤ k ∧ i = .int .i64 ((s : Int) - 1) ∧ e = .int .i64 0 ∧ vr = .slice p k c ∧ vq = .slice (some ⟨Q0, 0, none⟩) k k ∧ DivL w0 w bb n vin vval V K σ F Q0 k b a s zq (.slice p k c) zr wr σt Ft) (fun _ _ _ i _ => (intOf i + 1).toNat)
        case atStart => exact ⟨k, [], _, _, _, σ, F, Nat.le_refl _, rfl, rfl, rfl, rfl, HL.out⟩
        case round =>
          obtain ⟨s, zq, p, c, zr, σt, Ft, hs, rfl, rfl, rfl, rfl, hD⟩ := hrel
          obtain ⟨wp, rfl⟩ : ∃ wp : World, wp = wr := ⟨_, rfl⟩
          by_cases h0 : 0 < s
          · obtain ⟨s, rfl⟩ : ∃ q, s = q + 1 := ⟨s - 1, by omega⟩
            have es : (((s + 1 : Nat) : Int)) - 1 = (s : Int) := by omega
            rw [es]
            have hsx : s < xs.length := by have := HXL.out; omega
            have hsa : s < a.length := by have := HLA.out; omega
            obtain ⟨bx, ox, rfl, _, hcx⟩ := (HRX.out.fr hD.frw).atI s hsx
            have dx := hcx s hsx
            have hbit : LitIs σt Ft xs[s] a[s] := by
              have hh := HLX.out.ext hD.ext
              refine ⟨hh.1 _ (List.getElem_mem hsx), ?_⟩
              have := List.getElem_of_eq hh.2 (i := s) (by rw [List.length_map]; exact hsx)
              rw [List.getElem_map] at this
              exact this
            have hdl := (divB_len b k h1 HLB.out (a.drop (s + 1))).2
            have hmul : (k - (s + 1)) * (6 * k + 1) + (6 * k + 1) ≤ k * (6 * k + 1) := by rw [← Nat.succ_mul]; exact Nat.mul_le_mul_right _ (by omega)
            have hmul2 : (k - (s + 1)) * (36 * k + 6) + (36 * k + 6) ≤ k * (36 * k + 6) := by rw [← Nat.succ_mul]; exact Nat.mul_le_mul_right _ (by omega)
            have HC := hid (step_c hD.bas h1 h64 (hD.ir.weaken fun q hq => hq.1) (HIY.out.fr hD.frw) hD.lr (HLY.out.ext hD.ext) hbit hdl HLB.out (by have := HV.out.1; omega) (by have := HV.out.2; omega))
            have hQa := hD.q
            have g3 : ∀ w5, FrB bb wp w5 → w5.cell? ⟨Q0, s, none⟩ = some (.int .i64 0) ∧ w5.frozen? ⟨Q0, s, none⟩ = false := fun w5 hf => by
              have hq5 := (hQa.fr hf).2
              refine ⟨?_, frozen_of_cells hq5⟩
              rw [cell_of_cells hq5]
              simp only [List.getElem?_toArray]
              rw [List.map_append, List.getElem?_append_left (by simp), List.map_replicate, List.getElem?_replicate, if_pos (by omega)]
            have HG := hid g3
            have HNX := hid (fun (w5 : World) (z5 : Int) (v5 : Value) (zs5 : List Int) (σ5 : Nat → Bool) (F5 : Form) hB5 hi5 hl5 hz5 hf5 hx5 => DivL.next (w' := w5) (z := z5) (v := v5) (zs := zs5) (σ' := σ5) (F' := F5) (hs := hsa) hD (by omega) h64 HLB.out hB5 hi5 hl5 hz5 hf5 hx5)
            have HDL := hid hdl
            clear hcx hbit hdl hmul hmul2 hQa g3 hD
            generalize hxv : xs[s] = xv at *
            clear hxv
            go_wp2_with fail
            (with_reducible refine HC.out.mono ?_)
            rintro e w5 ⟨z5, v5, zs5, σ5, F5, rfl, hB5, hi5, hl5, hz5, hf5, hx5⟩
            have hz : zs5.length = k := by rw [hl5.len, stepB_len _ _ _ (by rw [HDL.out]; exact h1) (by rw [HDL.out, HLB.out]), HDL.out]
            obtain ⟨p5, c5, rfl, _, _, _⟩ := hi5.opn hz
            obtain ⟨g4, g5⟩ := HG.out w5 hf5
            have HN := hid (HNX.out w5 z5 _ zs5 σ5 F5 hB5 hi5 hl5 hz5 hf5 hx5)
            clear hB5 hi5 hl5 hz5 hf5 hx5 hz HC HG HNX
            go_wp2
            go_roundw
            case rel => exact ⟨s, z5 :: zq, p5, c5, zs5, σ5, F5, by omega, rfl, rfl, rfl, rfl, HN.out⟩
            case measure => (simp [intOf] <;> omega)
          · obtain rfl : s = 0 := by omega
            have es : ((0 : Nat) : Int) - 1 = -1 := rfl
            rw [es]
            have hq := hD.q.2
            have hqi : Ints (Away bb wp) wp (.slice (some ⟨Q0, 0, none⟩) k k) zq := by
              rw [List.replicate_zero, List.nil_append] at hq
              exact Ints.whole (by rw [hD.zl]; rfl) hq hD.q.1 (by rw [hD.zl]; omega)
            have e1 := hD.lq
            have e2 := hD.lr
            rw [List.drop_zero, divB_eq b a k h1 HLB.out HLA.out] at e1 e2
            have hB := hD.bas
            have hX := hD.ext
            rw [Nat.sub_zero] at hB hX
            have HFIN := hid (show DivP w0 bb n vin vval V K w σ F (ofB k (divQ k (valB a) (valB b))) (ofB k (valB a % valB b)) (k * (6 * k + 1)) (k * (36 * k + 6)) (.returned (.tuple #[.slice (some ⟨Q0, 0, none⟩) k k, .slice p k c, .int .i64 0])) wp from
              ⟨_, zq, _, zr, σt, Ft, rfl, hB, hqi, e1, hD.ir.weaken fun q hq => hq.1, e2, hD.frw, hX⟩)
            clear hq hqi e1 e2 hB hX hD
            go_wp2
            go_ret3
            exact HFIN.out
  · intro K hK
    go_simp
    refine hK _ _ (.inr (.inr hS)) ?_
    clear hK K
    refine wpHJ_only 2 (by kernel_rfl) rfl ?_
    intro K hK
    go_simp
    refine hK _ _ (.inr (.inr hS)) ?_
    clear hK K
    refine wpHJ_pure (v := ?va6_14) 6 hFa rfl (by kernel_rfl) (fun _ _ _ h => h.elim) (Or.inl ⟨by rfl, ?ya6_14⟩) (.inr hS) ?ra6_14
    case ya6_14 => (intro w' _; go_simp; try rfl)
    simp only [Act.put, List.getElem_toArray, List.getElem_cons_succ, List.getElem_cons_zero, List.setIfInBounds_toArray, List.set_cons_zero, List.set_cons_succ]
    refine wpHJ_only 7 (by kernel_rfl) rfl ?_
    intro K hK
    go_simp
    refine hK _ _ (.inl rfl) ?_
    clear hK K
    refine wpHJ_done (by kernel_rfl) ?_ _
    simp only [onlyN, Exit.then]
    clear hFa
    have hA := (DivA.two (m := m) HH.out HB1.out HF1.out).2
    clear hS
    obtain ⟨w2, hw2⟩ : ∃ w2, ((w1.alloc (.cells (Array.replicate m (.int .i64 0)) 3)).alloc (.cells (Array.replicate m (.int .i64 0)) 3)).drew = w2 := ⟨_, rfl⟩
    rw [hw2] at hA
    rw [hw2]
    clear hw2
    generalize w1.heap.size + 1 = Q1 at *
    generalize w1.heap.size = Q0 at *
    have HA := hid hA
    clear hA
    go_wp2_with fail
    go_loopw [27] (fun i wr => ∃ k : Nat, k ≤ m ∧ i = .int .i64 k ∧ DivA w0 w bb n vin vval V K Q1 Q0 m k wr σ F) (fun i _ => m - (intOf i).toNat)
    case atStart => exact ⟨0, by omega, rfl, HA.out⟩
    case round =>
      obtain ⟨k, hk, rfl, hA⟩ := hrel
      obtain ⟨wo, rfl⟩ : ∃ wo : World, wo = wr := ⟨_, rfl⟩
      by_cases hlt : k < m
      · have g1 : wo.cell? ⟨Q0, k, none⟩ = some (.int .i64 0) := by
          rw [cell_of_cells hA.r.2]
          simp only [List.getElem?_toArray]
          rw [List.map_append, List.getElem?_append_right (by simp), List.length_map, List.length_replicate, Nat.sub_self, List.map_replicate, List.getElem?_replicate, if_pos (by omega)]
        have g2 : wo.frozen? ⟨Q0, k, none⟩ = false := frozen_of_cells hA.r.2
        have HS := hid (hA.store hlt)
        clear hA
        go_wp2_with (go_at_call 31; refine (true_any bb _).mono ?_; rintro e w' ⟨rfl, rfl⟩)
        go_roundw
        case rel => exact ⟨k + 1, by omega, by go_num, HS.out⟩
        case measure => simp [intOf]; omega
      · obtain rfl : k = m := by omega
        have hL := hA.go (b := b) (x := a) h1 h64 HLA.out
        have HL := hid hL
        clear hA hL
        have em : (k : Int) - 1 = ((k : Nat) : Int) - 1 := rfl
        go_wp2_with fail
        go_loopw [6, 7, 8, 11] (fun vq vr e i wr => ∃ (s : Nat) (zq : List Int) (p : Option Addr) (c : Nat) (zr : List Int) (σt : Nat → Bool) (Ft : Form), s ≤ k ∧ i = .int .i64 ((s : Int) - 1) ∧ e = .int .i64 0 ∧ vr = .slice p k c ∧ vq = .slice (some ⟨Q1, 0, none⟩) k k ∧ DivL w0 w bb n vin vval V K σ F Q1 k b a s zq (.slice p k c) zr wr σt Ft) (fun _ _ _ i _ => (intOf i + 1).toNat)
        case atStart => exact ⟨k, [], _, _, _, σ, F, Nat.le_refl _, rfl, rfl, rfl, rfl, HL.out⟩
        case round =>
          obtain ⟨s, zq, p, c, zr, σt, Ft, hs, rfl, rfl, rfl, rfl, hD⟩ := hrel
          obtain ⟨wp, rfl⟩ : ∃ wp : World, wp = wr := ⟨_, rfl⟩
          by_cases h0 : 0 < s
          · obtain ⟨s, rfl⟩ : ∃ q, s = q + 1 := ⟨s - 1, by omega⟩
            have es : (((s + 1 : Nat) : Int)) - 1 = (s : Int) := by omega
            rw [es]
            have hsx : s < xs.length := by have := HXL.out; omega
            have hsa : s < a.length := by have := HLA.out; omega
            obtain ⟨bx, ox, rfl, _, hcx⟩ := (HRX.out.fr hD.frw).atI s hsx
            have dx := hcx s hsx
            have hbit : LitIs σt Ft xs[s] a[s] := by
              have hh := HLX.out.ext hD.ext
              refine ⟨hh.1 _ (List.getElem_mem hsx), ?_⟩
              have := List.getElem_of_eq hh.2 (i := s) (by rw [List.length_map]; exact hsx)
              rw [List.getElem_map] at this
              exact this
            have hdl := (divB_len b k h1 HLB.out (a.drop (s + 1))).2
            have hmul : (k - (s + 1)) * (6 * k + 1) + (6 * k + 1) ≤ k * (6 * k + 1) := by rw [← Nat.succ_mul]; exact Nat.mul_le_mul_right _ (by omega)
            have hmul2 : (k - (s + 1)) * (36 * k + 6) + (36 * k + 6) ≤ k * (36 * k + 6) := by rw [← Nat.succ_mul]; exact Nat.mul_le_mul_right _ (by omega)
            have HC := hid (step_c hD.bas h1 h64 (hD.ir.weaken fun q hq => hq.1) (HIY.out.fr hD.frw) hD.lr (HLY.out.ext hD.ext) hbit hdl HLB.out (by have := HV.out.1; omega) (by have := HV.out.2; omega))
            have hQa := hD.q
            have g3 : ∀ w5, FrB bb wp w5 → w5.cell? ⟨Q1, s, none⟩ = some (.int .i64 0) ∧ w5.frozen? ⟨Q1, s, none⟩ = false := fun w5 hf => by
              have hq5 := (hQa.fr hf).2
              refine ⟨?_, frozen_of_cells hq5⟩
              rw [cell_of_cells hq5]
              simp only [List.getElem?_toArray]
              rw [List.map_append, List.getElem?_append_left (by simp), List.map_replicate, List.getElem?_replicate, if_pos (by omega)]
            have HG := hid g3
            have HNX := hid (fun (w5 : World) (z5 : Int) (v5 : Value) (zs5 : List Int) (σ5 : Nat → Bool) (F5 : Form) hB5 hi5 hl5 hz5 hf5 hx5 => DivL.next (w' := w5) (z := z5) (v := v5) (zs := zs5) (σ' := σ5) (F' := F5) (hs := hsa) hD (by omega) h64 HLB.out hB5 hi5 hl5 hz5 hf5 hx5)
            have HDL := hid hdl
            clear hcx hbit hdl hmul hmul2 hQa g3 hD
            generalize hxv : xs[s] = xv at *
            clear hxv
            go_wp2_with fail
            (with_reducible refine HC.out.mono ?_)
            rintro e w5 ⟨z5, v5, zs5, σ5, F5, rfl, hB5, hi5, hl5, hz5, hf5, hx5⟩
            have hz : zs5.length = k := by rw [hl5.len, stepB_len _ _ _ (by rw [HDL.out]; exact h1) (by rw [HDL.out, HLB.out]), HDL.out]
            obtain ⟨p5, c5, rfl, _, _, _⟩ := hi5.opn hz
            obtain ⟨g4, g5⟩ := HG.out w5 hf5
            have HN := hid (HNX.out w5 z5 _ zs5 σ5 F5 hB5 hi5 hl5 hz5 hf5 hx5)
            clear hB5 hi5 hl5 hz5 hf5 hx5 hz HC HG HNX
            go_wp2
            go_roundw
            case rel => exact ⟨s, z5 :: zq, p5, c5, zs5, σ5, F5, by omega, rfl, rfl, rfl, rfl, HN.out⟩
            case measure => (simp [intOf] <;> omega)
          · obtain rfl : s = 0 := by omega
            have es : ((0 : Nat) : Int) - 1 = -1 := rfl
            rw [es]
            have hq := hD.q.2
            have hqi : Ints (Away bb wp) wp (.slice (some ⟨Q1, 0, none⟩) k k) zq := by
              rw [List.replicate_zero, List.nil_append] at hq
              exact Ints.whole (by rw [hD.zl]; rfl) hq hD.q.1 (by rw [hD.zl]; omega)
            have e1 := hD.lq
            have e2 := hD.lr
            rw [List.drop_zero, divB_eq b a k h1 HLB.out HLA.out] at e1 e2
            have hB := hD.bas
            have hX := hD.ext
            rw [Nat.sub_zero] at hB hX
            have HFIN := hid (show DivP w0 bb n vin vval V K w σ F (ofB k (divQ k (valB a) (valB b))) (ofB k (valB a % valB b)) (k * (6 * k + 1)) (k * (36 * k + 6)) (.returned (.tuple #[.slice (some ⟨Q1, 0, none⟩) k k, .slice p k c, .int .i64 0])) wp from
              ⟨_, zq, _, zr, σt, Ft, rfl, hB, hqi, e1, hD.ir.weaken fun q hq => hq.1, e2, hD.frw, hX⟩)
            clear hq hqi e1 e2 hB hX hD
            go_wp2
            go_ret3
            exact HFIN.out

end Go.Proofs.Ytngimdbjcelkeaa
